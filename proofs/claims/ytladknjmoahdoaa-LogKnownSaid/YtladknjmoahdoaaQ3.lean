/- What is read of a log. -/
import Derived.Test.YtladknjmoahdoaaQ2
set_option linter.all false
namespace Go.Proofs.Ytladknjmoahdoaa
open Go.RowKit Go

set_option maxRecDepth 100000 in
set_option maxHeartbeats 16000000 in
theorem read_log {lp dp pages : Nat} {F : List Nat} {d : DiskT} {name : ByteArray} {p0 : PageT} {rest : List PageT} {f : FileT} {w : World} (hd : DkO w dp F d) (hoff : d.off = false) (hg : mget d.files name = some f) (hps : f.now = p0 :: rest) (hpl : rest.length = pages)
    (hblk : w.heap[lp]? = some (.cells (logC dp name 0 0 (.slice none 0 0) 0) 54)) (hF : lp ∉ F) (hpg : pages ≤ 65536) :
    Calls Try.prog 23 #[.pointer (some ⟨lp, 0, none⟩), .int .i64 (pages : Int)] w (ReadP w lp dp name (readL (p0 :: rest))) := by
  have HD := Lib.hid hd
  have HBLK := Lib.hid hblk
  have HFL := Lib.hid hF
  have HPL := Lib.hid hpl
  have hrd : ∀ (k : Nat) (hk : k < (p0 :: rest).length), readD d name (k : Int) = (0, some (p0 :: rest)[k]) := fun k hk => by
    unfold readD findD
    rw [if_neg (by rw [hoff]; simp), hg]
    dsimp only
    rw [if_neg (by omega), hps, Int.toNat_natCast, List.getElem?_eq_getElem hk]
  have hrd0 := hrd 0 (by simp)
  have HRD := Lib.hid hrd
  have HRE := Lib.hid (fun V (hV : DkO V dp F d) => hV.read name 0)
  simp only [show readD d name 0 = (0, some p0) from hrd0] at HRE
  have q0 : w.cell? ⟨lp, 0, none⟩ = some (.pointer (some ⟨dp, 0, none⟩)) := cell_of (j := 0) hblk rfl
  have q1 : w.cell? ⟨lp, 1, none⟩ = some (.string name) := cell_of (j := 1) hblk rfl
  clear hd hblk hF hpl hrd hrd0 hg hps hoff
  go_enter Try.func23, Try.ntmps23
  go_wp2_with fail
  refine wp_region_noPanic ?_
  refine wp_region_any (by kernel_rfl) (anyG_any (S := fun V : World => Below w.heap.size w V) (n := 14) _ _ _ _ ?_)
  have hS : Below w.heap.size w w.drew := (Below.refl _ _).drew
  change AnyG _ _ _ _ _ _ 14 (Array.replicate 14 false) _ w.drew
  refine anyG_take0 (i := 0) (oi := ⟨_, _, _, _, _, _⟩) (v := ?_) rfl (by kernel_rfl) (by kernel_rfl) (by kernel_rfl) (by kernel_rfl) (fun _ _ _ h => h) (Or.inl ⟨by rfl, ?_⟩) hS ?_
  rotate_left
  · (intro w' hSw; skip; go_simp; (try with_reducible rfl))
  try simp only [Act.put, List.setIfInBounds_toArray, List.set_cons_zero, List.set_cons_succ]
  refine anyG_take0 (i := 1) (oi := ⟨_, _, _, _, _, _⟩) (v := ?_) rfl (by kernel_rfl) (by kernel_rfl) (by kernel_rfl) (by kernel_rfl) (fun _ _ _ h => h) (Or.inl ⟨by rfl, ?_⟩) hS ?_
  rotate_left
  · (intro w' hSw; skip; go_simp; (try with_reducible rfl))
  try simp only [Act.put, List.setIfInBounds_toArray, List.set_cons_zero, List.set_cons_succ]
  refine anyG_take0 (i := 2) (oi := ⟨_, _, _, _, _, _⟩) (v := ?_) rfl (by kernel_rfl) (by kernel_rfl) (by kernel_rfl) (by kernel_rfl) (fun _ _ _ h => h) (Or.inl ⟨by rfl, ?_⟩) hS ?_
  rotate_left
  · (intro w' hSw; skip; go_simp; (try with_reducible rfl))
  try simp only [Act.put, List.setIfInBounds_toArray, List.set_cons_zero, List.set_cons_succ]
  refine anyG_take0 (i := 3) (oi := ⟨_, _, _, _, _, _⟩) (v := ?_) rfl (by kernel_rfl) (by kernel_rfl) (by kernel_rfl) (by kernel_rfl) (fun _ _ _ h => h) (Or.inl ⟨by rfl, ?_⟩) hS ?_
  rotate_left
  · (intro w' hSw; have s1 := cell_below hSw q0; have s2 := cell_below hSw q1; go_simp; (try with_reducible rfl))
  try simp only [Act.put, List.setIfInBounds_toArray, List.set_cons_zero, List.set_cons_succ]
  refine anyG_take0 (i := 4) (oi := ⟨_, _, _, _, _, _⟩) (v := ?_) rfl (by kernel_rfl) (by kernel_rfl) (by kernel_rfl) (by kernel_rfl) (fun _ _ _ h => h) (Or.inl ⟨by rfl, ?_⟩) hS ?_
  rotate_left
  · (intro w' hSw; skip; go_simp; (try with_reducible rfl))
  try simp only [Act.put, List.setIfInBounds_toArray, List.set_cons_zero, List.set_cons_succ]
  refine anyG_take0 (i := 5) (oi := ⟨_, _, _, _, _, _⟩) (v := ?_) rfl (by kernel_rfl) (by kernel_rfl) (by kernel_rfl) (by kernel_rfl) (fun _ _ _ h => h) (Or.inl ⟨by rfl, ?_⟩) hS ?_
  rotate_left
  · (intro w' hSw; skip; go_simp; (try with_reducible rfl))
  try simp only [Act.put, List.setIfInBounds_toArray, List.set_cons_zero, List.set_cons_succ]
  refine anyG_take0 (i := 6) (oi := ⟨_, _, _, _, _, _⟩) (v := ?_) rfl (by kernel_rfl) (by kernel_rfl) (by kernel_rfl) (by kernel_rfl) (fun _ _ _ h => h) (Or.inl ⟨by rfl, ?_⟩) hS ?_
  rotate_left
  · (intro w' hSw; skip; go_simp; (try with_reducible rfl))
  try simp only [Act.put, List.setIfInBounds_toArray, List.set_cons_zero, List.set_cons_succ]
  refine anyG_take0 (i := 7) (oi := ⟨_, _, _, _, _, _⟩) (v := ?_) rfl (by kernel_rfl) (by kernel_rfl) (by kernel_rfl) (by kernel_rfl) (fun _ _ _ h => h) (Or.inl ⟨by rfl, ?_⟩) hS ?_
  rotate_left
  · (intro w' hSw; have s1 := cell_below hSw q0; have s2 := cell_below hSw q1; go_simp; (try with_reducible rfl))
  try simp only [Act.put, List.setIfInBounds_toArray, List.set_cons_zero, List.set_cons_succ]
  refine anyG_all (rs := [8]) (by kernel_rfl) (by simp) (List.forall_mem_singleton.2 ?_)
  refine wpOp_step (o := ⟨_, _, _, _, _, _⟩) rfl (fun K' hK => ?_)
  have HK := Lib.hid hK
  clear hK
  rw [if_pos (by rfl)]
  go_simp
  refine (HRE.out _ (HD.out.below hS)).mono ?_
  rintro e w1 ⟨v, rfl, hv⟩
  obtain ⟨g, rfl, hc, hb⟩ := read_bytes hv
  have hS := hS.trans (hb.mono hS.size)
  have HC := Lib.hid hc
  clear hv hb hc HRE
  go_wp2_with fail
  refine HK.out _ _ ⟨fun _ => hS, ?_⟩
  clear HK
  try simp only [Act.put, List.setIfInBounds_toArray, List.set_cons_zero, List.set_cons_succ]
  refine anyG_take0 (i := 9) (oi := ⟨_, _, _, _, _, _⟩) (v := ?_) rfl (by kernel_rfl) (by kernel_rfl) (by kernel_rfl) (by kernel_rfl) (fun _ _ _ h => h) (Or.inl ⟨by rfl, ?_⟩) hS ?_
  rotate_left
  · (intro w' hSw; skip; go_simp; (try with_reducible rfl))
  try simp only [Act.put, List.setIfInBounds_toArray, List.set_cons_zero, List.set_cons_succ]
  refine anyG_take0 (i := 10) (oi := ⟨_, _, _, _, _, _⟩) (v := ?_) rfl (by kernel_rfl) (by kernel_rfl) (by kernel_rfl) (by kernel_rfl) (fun _ _ _ h => h) (Or.inl ⟨by rfl, ?_⟩) hS ?_
  rotate_left
  · (intro w' hSw; skip; go_simp; (try with_reducible rfl))
  try simp only [Act.put, List.setIfInBounds_toArray, List.set_cons_zero, List.set_cons_succ]
  refine anyG_take0 (i := 11) (oi := ⟨_, _, _, _, _, _⟩) (v := ?_) rfl (by kernel_rfl) (by kernel_rfl) (by kernel_rfl) (by kernel_rfl) (fun _ _ _ h => h) (Or.inl ⟨by rfl, ?_⟩) hS ?_
  rotate_left
  · (intro w' hSw; skip; go_simp; (try with_reducible rfl))
  try simp only [Act.put, List.setIfInBounds_toArray, List.set_cons_zero, List.set_cons_succ]
  refine anyG_take0 (i := 12) (oi := ⟨_, _, _, _, _, _⟩) (v := ?_) rfl (by kernel_rfl) (by kernel_rfl) (by kernel_rfl) (by kernel_rfl) (fun _ _ _ h => h) (Or.inl ⟨by rfl, ?_⟩) hS ?_
  rotate_left
  · (intro w' hSw; skip; go_simp; (try with_reducible rfl))
  try simp only [Act.put, List.setIfInBounds_toArray, List.set_cons_zero, List.set_cons_succ]
  refine anyG_take0 (i := 13) (oi := ⟨_, _, _, _, _, _⟩) (v := ?_) rfl (by kernel_rfl) (by kernel_rfl) (by kernel_rfl) (by kernel_rfl) (fun _ _ _ h => h) (Or.inl ⟨by rfl, ?_⟩) hS ?_
  rotate_left
  · (intro w' hSw; skip; go_simp; (try with_reducible rfl))
  try simp only [Act.put, List.setIfInBounds_toArray, List.set_cons_zero, List.set_cons_succ]
  refine anyG_done (by kernel_rfl) ?_
  refine NoPanic.normal ?_
  have HB1 := Lib.hid hS
  clear hS
  obtain ⟨lg, hlg⟩ : ∃ lg, valL (p0.b.take 8) = lg := ⟨_, rfl⟩
  obtain ⟨ct, hct⟩ : ∃ ct, valL ((p0.b.drop 8).take 8) = ct := ⟨_, rfl⟩
  obtain ⟨od, hod⟩ : ∃ od, (p0.b.drop 16).any oddB = od := ⟨_, rfl⟩
  have hl64 : lg < 18446744073709551616 := by
    have := valL_lt p0.b 8 (by rw [p0.len]; decide)
    omega
  have hc64 : ct < 18446744073709551616 := by
    have := valL_lt (p0.b.drop 8) 8 (by rw [List.length_drop, p0.len]; decide)
    omega
  have HV1 := Lib.hid (fun V (hV : Cells V (some ⟨g, 0, none⟩) (bv p0.b)) => value_any (some ⟨g, 0, none⟩) 8 256 (p0.b.take 8) V (by unfold bv; rw [List.map_take]; exact hV.take 8) (by rw [List.length_take, p0.len]; rfl) (by decide))
  have HV2 := Lib.hid (fun V (hV : Cells V (some ⟨g, 0, none⟩) (bv p0.b)) => value_any (some ⟨g, 8, none⟩) 8 248 ((p0.b.drop 8).take 8) V (by unfold bv; rw [List.map_take, List.map_drop]; exact (cells_drop hV 8).take 8) (by rw [List.length_take, List.length_drop, p0.len]; rfl) (by decide))
  have HV3 := Lib.hid (fun V (hV : Cells V (some ⟨g, 0, none⟩) (bv p0.b)) => containsB_any (p0.b.drop 16) (some ⟨g, 16, none⟩) 240 240 V (by rw [List.length_drop, p0.len]) (by decide) (by unfold bv; rw [List.map_drop]; exact cells_drop hV 16))
  simp only [hlg] at HV1
  simp only [hct] at HV2
  simp only [hod] at HV3
  have HLG := Lib.hid hlg
  have HCT := Lib.hid hct
  have HOD := Lib.hid hod
  clear hlg hct hod
  go_wp2_with fail
  refine wp_region_noPanic ?_
  refine wp_region_any (by kernel_rfl) (anyG_any (S := fun V : World => Below w1.heap.size w1 V) (n := 8) _ _ _ _ ?_)
  have hS : Below w1.heap.size w1 w1.drew := (Below.refl _ _).drew
  change AnyG _ _ _ _ _ _ 8 (Array.replicate 8 false) _ w1.drew
  refine anyG_take0 (i := 0) (oi := ⟨_, _, _, _, _, _⟩) (v := ?_) rfl (by kernel_rfl) (by kernel_rfl) (by kernel_rfl) (by kernel_rfl) (fun _ _ _ h => h) (Or.inl ⟨by rfl, ?_⟩) hS ?_
  rotate_left
  · (intro w' hSw; skip; go_simp; (try with_reducible rfl))
  try simp only [Act.put, List.setIfInBounds_toArray, List.set_cons_zero, List.set_cons_succ]
  refine anyG_take0 (i := 1) (oi := ⟨_, _, _, _, _, _⟩) (v := ?_) rfl (by kernel_rfl) (by kernel_rfl) (by kernel_rfl) (by kernel_rfl) (fun _ _ _ h => h) (Or.inl ⟨by rfl, ?_⟩) hS ?_
  rotate_left
  · (intro w' hSw; skip; go_simp; (try with_reducible rfl))
  try simp only [Act.put, List.setIfInBounds_toArray, List.set_cons_zero, List.set_cons_succ]
  refine anyG_take0 (i := 3) (oi := ⟨_, _, _, _, _, _⟩) (v := ?_) rfl (by kernel_rfl) (by kernel_rfl) (by kernel_rfl) (by kernel_rfl) (fun _ _ _ h => h) (Or.inl ⟨by rfl, ?_⟩) hS ?_
  rotate_left
  · (intro w' hSw; skip; go_simp; (try with_reducible rfl))
  try simp only [Act.put, List.setIfInBounds_toArray, List.set_cons_zero, List.set_cons_succ]
  refine anyG_take0 (i := 4) (oi := ⟨_, _, _, _, _, _⟩) (v := ?_) rfl (by kernel_rfl) (by kernel_rfl) (by kernel_rfl) (by kernel_rfl) (fun _ _ _ h => h) (Or.inl ⟨by rfl, ?_⟩) hS ?_
  rotate_left
  · (intro w' hSw; skip; go_simp; (try with_reducible rfl))
  try simp only [Act.put, List.setIfInBounds_toArray, List.set_cons_zero, List.set_cons_succ]
  refine anyG_all (rs := [2]) (by kernel_rfl) (by simp) (List.forall_mem_singleton.2 ?_)
  refine wpOp_step (o := ⟨_, _, _, _, _, _⟩) rfl (fun K' hK => ?_)
  have HK := Lib.hid hK
  clear hK
  rw [if_pos (by rfl)]
  go_simp
  refine (HV1.out _ (Cells.below HC.out hS)).mono ?_
  rintro e V3 ⟨rfl, hV⟩
  subst hV
  go_wp2_with fail
  refine HK.out _ _ ⟨fun _ => hS, ?_⟩
  clear HK
  try simp only [Act.put, List.setIfInBounds_toArray, List.set_cons_zero, List.set_cons_succ]
  refine anyG_all (rs := [5]) (by kernel_rfl) (by simp) (List.forall_mem_singleton.2 ?_)
  refine wpOp_step (o := ⟨_, _, _, _, _, _⟩) rfl (fun K' hK => ?_)
  have HK := Lib.hid hK
  clear hK
  rw [if_pos (by rfl)]
  go_simp
  refine (HV2.out _ (Cells.below HC.out hS)).mono ?_
  rintro e V4 ⟨rfl, hV⟩
  subst hV
  go_wp2_with fail
  refine HK.out _ _ ⟨fun _ => hS, ?_⟩
  clear HK
  try simp only [Act.put, List.setIfInBounds_toArray, List.set_cons_zero, List.set_cons_succ]
  refine anyG_take0 (i := 6) (oi := ⟨_, _, _, _, _, _⟩) (v := ?_) rfl (by kernel_rfl) (by kernel_rfl) (by kernel_rfl) (by kernel_rfl) (fun _ _ _ h => h) (Or.inl ⟨by rfl, ?_⟩) hS ?_
  rotate_left
  · (intro w' hSw; skip; go_simp; (try with_reducible rfl))
  try simp only [Act.put, List.setIfInBounds_toArray, List.set_cons_zero, List.set_cons_succ]
  refine anyG_take0 (i := 7) (oi := ⟨_, _, _, _, _, _⟩) (v := ?_) rfl (by kernel_rfl) (by kernel_rfl) (by kernel_rfl) (by kernel_rfl) (fun _ _ _ h => h) (Or.inl ⟨by rfl, ?_⟩) hS ?_
  rotate_left
  · (intro w' hSw; skip; go_simp; (try with_reducible rfl))
  try simp only [Act.put, List.setIfInBounds_toArray, List.set_cons_zero, List.set_cons_succ]
  refine anyG_done (by kernel_rfl) ?_
  refine NoPanic.normal ?_
  obtain ⟨w2, hw2⟩ : ∃ w2, w1.drew = w2 := ⟨_, rfl⟩
  rw [hw2] at hS ⊢
  have HC := Lib.hid (Cells.below HC.out hS)
  have HB1 := Lib.hid (HB1.out.trans (hS.mono HB1.out.size))
  clear hS hw2 q0 q1 HV1 HV2
  go_wp2_with fail
  refine (HV3.out _ HC.out).mono ?_
  rintro e w3 ⟨rfl, hw3⟩
  subst hw3
  clear HV3
  have HBAD := Lib.hid (show badH (headP p0) rest.length = (od || decide (65536 < ct) || decide (pages * 256 < lg)) from by
    unfold badH headP
    dsimp only
    rw [HOD.out, HCT.out, HLG.out, HPL.out])
  cases od
  case true =>
    have HB0 := Lib.hid (trivial : True)
    have hn : readL (p0 :: rest) = none := readL_bad (by rw [HBAD.out]; simp [HB0.out])
    have HN := Lib.hid hn
    clear hn
    go_wp2_with fail
    refine bodyPost_ret (results_tmp2 rfl _ _ _) rfl ?_
    rw [HN.out]
    exact ⟨Fr.below HB1.out, rfl⟩
  case false =>
    by_cases hcb : 65536 < ct
    · have HB0 := Lib.hid (decide_eq_true hcb)
      have hd1 : decide ((ct : Int) > 65536) = true := decide_eq_true (by omega)
      have hn : readL (p0 :: rest) = none := readL_bad (by rw [HBAD.out]; simp [HB0.out])
      have HN := Lib.hid hn
      clear hn
      go_wp2_with fail
      refine bodyPost_ret (results_tmp2 rfl _ _ _) rfl ?_
      rw [HN.out]
      exact ⟨Fr.below HB1.out, rfl⟩
    · have hd1 : decide ((ct : Int) > 65536) = false := decide_eq_false (by omega)
      by_cases hlb : pages * 256 < lg
      · have HB0 := Lib.hid (decide_eq_true hlb)
        have hd2 : decide ((lg : Int) > (pages : Int) * 256) = true := decide_eq_true (by omega)
        have hn : readL (p0 :: rest) = none := readL_bad (by rw [HBAD.out]; simp [HB0.out])
        have HN := Lib.hid hn
        clear hn
        go_wp2_with fail
        refine bodyPost_ret (results_tmp2 rfl _ _ _) rfl ?_
        rw [HN.out]
        exact ⟨Fr.below HB1.out, rfl⟩
      · have hd2 : decide ((lg : Int) > (pages : Int) * 256) = false := decide_eq_false (by omega)
        have hb2 : w2.heap[lp]? = some (.cells (logC dp name 0 0 (.slice none 0 0) 0) 54) := (HB1.out.block lp (lt_of_block HBLK.out)).trans HBLK.out
        have HB2 := Lib.hid hb2
        have c2 : w2.cell? ⟨lp, 2, none⟩ = some (.int .i64 0) := cell_of (j := 2) hb2 rfl
        have c3 : w2.cell? ⟨lp, 3, none⟩ = some (.int .i64 0) := cell_of (j := 3) hb2 rfl
        have f2 := free_of hb2 2
        have f3 := free_of hb2 3
        clear hb2
        go_wp2_with fail
        have b8 := setCell_heap (j := 3) (.int .i64 (ct : Int)) (setCell_heap (j := 2) (.int .i64 (lg : Int)) HB2.out)
        have hf8 : Fr [lp] w2 ((w2.setCell ⟨lp, 2, none⟩ (.int .i64 (lg : Int))).setCell ⟨lp, 3, none⟩ (.int .i64 (ct : Int))) := ((Fr.refl [lp] w2).put lp 2 _ (.inl (by simp))).put lp 3 _ (.inl (by simp))
        generalize (w2.setCell ⟨lp, 2, none⟩ (.int .i64 (lg : Int))).setCell ⟨lp, 3, none⟩ (.int .i64 (ct : Int)) = w8 at b8 hf8 ⊢
        have B8 := Lib.hid (show w8.heap[lp]? = some (.cells (logC dp name lg ct (.slice none 0 0) 0) 54) from b8)
        have HF8 := Lib.hid ((Fr.below HB1.out).and hf8)
        have HD8 := Lib.hid ((HD.out.below HB1.out).fr hf8 fun i hi hm => HFL.out (by simp only [List.mem_singleton] at hm; rw [← hm]; exact hi))
        clear b8 hf8 c2 c3 f2 f3 HB1 HB2 HC
        have hbd : badH (headP p0) rest.length = false := by rw [HBAD.out, decide_eq_false hcb, decide_eq_false hlb]; rfl
        have HBD := Lib.hid hbd
        clear hbd hd1 hd2
        go_loopw [11, 12] (fun u i wr => ∃ k : Nat, k ≤ (lg + 255) / 256 ∧ i = .int .i64 k ∧ wr.ownsRow w8.heap.size 5 1 u (k * 256) (bv (flatB (rest.take k))) ∧ Below w8.heap.size w8 wr ∧ (k = 0 → u = .slice none 0 0)) (fun _ i _ => (lg + 255) / 256 - (intOf i).toNat)
        case atStart => exact ⟨0, Nat.zero_le _, rfl, World.ownsRow_nil _ _ _ _, Below.refl _ _, fun _ => rfl⟩
        case round =>
          obtain ⟨k, hk, rfl, hown, hbr, hk0⟩ := hrel
          obtain ⟨Au, cu, hu, hcu, -⟩ := own_shape hown
          subst hu
          have HO := Lib.hid hown
          have HB := Lib.hid hbr
          have blr := (hbr.block lp (lt_of_block B8.out)).trans B8.out
          have BLR := Lib.hid blr
          have e2 : wr.cell? ⟨lp, 2, none⟩ = some (.int .i64 (lg : Int)) := cell_of (j := 2) blr rfl
          clear hown hbr blr
          by_cases hlt : k * 256 < lg
          · have hkr : k < rest.length := by rw [HPL.out]; omega
            have hlti : ((k : Int) * 256) < (lg : Int) := by omega
            have hkb : k ≤ 65536 := by omega
            have hk1 : k + 1 ≤ (lg + 255) / 256 := by omega
            have q0 : wr.cell? ⟨lp, 0, none⟩ = some (.pointer (some ⟨dp, 0, none⟩)) := cell_of (j := 0) BLR.out rfl
            have q1 : wr.cell? ⟨lp, 1, none⟩ = some (.string name) := cell_of (j := 1) BLR.out rfl
            have hrk : readD d name ((k : Int) + 1) = (0, some rest[k]) := HRD.out (k + 1) (by simpa using hkr)
            have HRK := Lib.hid (fun V (hV : DkO V dp F d) => hV.read name ((k : Int) + 1))
            simp only [hrk] at HRK
            obtain ⟨pk, hpk⟩ : ∃ pk, rest[k] = pk := ⟨_, rfl⟩
            rw [hpk] at HRK
            have HPK := Lib.hid hpk
            clear hrk hpk
            go_wp2_with fail
            refine wp_region_noPanic ?_
            refine wp_region_any (by kernel_rfl) (anyG_any (S := fun V : World => Below wr.heap.size wr V) (n := 16) _ _ _ _ ?_)
            have hS : Below wr.heap.size wr wr.drew := (Below.refl _ _).drew
            change AnyG _ _ _ _ _ _ 16 (Array.replicate 16 false) _ wr.drew
            refine anyG_take0 (i := 0) (oi := ⟨_, _, _, _, _, _⟩) (v := ?_) rfl (by kernel_rfl) (by kernel_rfl) (by kernel_rfl) (by kernel_rfl) (fun _ _ _ h => h) (Or.inl ⟨by rfl, ?_⟩) hS ?_
            rotate_left
            · (intro w' hSw; skip; go_simp; (try with_reducible rfl))
            try simp only [Act.put, List.setIfInBounds_toArray, List.set_cons_zero, List.set_cons_succ]
            refine anyG_take0 (i := 1) (oi := ⟨_, _, _, _, _, _⟩) (v := ?_) rfl (by kernel_rfl) (by kernel_rfl) (by kernel_rfl) (by kernel_rfl) (fun _ _ _ h => h) (Or.inl ⟨by rfl, ?_⟩) hS ?_
            rotate_left
            · (intro w' hSw; skip; go_simp; (try with_reducible rfl))
            try simp only [Act.put, List.setIfInBounds_toArray, List.set_cons_zero, List.set_cons_succ]
            refine anyG_take0 (i := 2) (oi := ⟨_, _, _, _, _, _⟩) (v := ?_) rfl (by kernel_rfl) (by kernel_rfl) (by kernel_rfl) (by kernel_rfl) (fun _ _ _ h => h) (Or.inl ⟨by rfl, ?_⟩) hS ?_
            rotate_left
            · (intro w' hSw; skip; go_simp; (try with_reducible rfl))
            try simp only [Act.put, List.setIfInBounds_toArray, List.set_cons_zero, List.set_cons_succ]
            refine anyG_take0 (i := 3) (oi := ⟨_, _, _, _, _, _⟩) (v := ?_) rfl (by kernel_rfl) (by kernel_rfl) (by kernel_rfl) (by kernel_rfl) (fun _ _ _ h => h) (Or.inl ⟨by rfl, ?_⟩) hS ?_
            rotate_left
            · (intro w' hSw; have s1 := cell_below hSw q0; have s2 := cell_below hSw q1; go_simp; (try with_reducible rfl))
            try simp only [Act.put, List.setIfInBounds_toArray, List.set_cons_zero, List.set_cons_succ]
            refine anyG_take0 (i := 4) (oi := ⟨_, _, _, _, _, _⟩) (v := ?_) rfl (by kernel_rfl) (by kernel_rfl) (by kernel_rfl) (by kernel_rfl) (fun _ _ _ h => h) (Or.inl ⟨by rfl, ?_⟩) hS ?_
            rotate_left
            · (intro w' hSw; skip; go_simp; (try with_reducible rfl))
            try simp only [Act.put, List.setIfInBounds_toArray, List.set_cons_zero, List.set_cons_succ]
            refine anyG_take0 (i := 5) (oi := ⟨_, _, _, _, _, _⟩) (v := ?_) rfl (by kernel_rfl) (by kernel_rfl) (by kernel_rfl) (by kernel_rfl) (fun _ _ _ h => h) (Or.inl ⟨by rfl, ?_⟩) hS ?_
            rotate_left
            · (intro w' hSw; skip; go_simp; (try with_reducible rfl))
            try simp only [Act.put, List.setIfInBounds_toArray, List.set_cons_zero, List.set_cons_succ]
            refine anyG_take0 (i := 6) (oi := ⟨_, _, _, _, _, _⟩) (v := ?_) rfl (by kernel_rfl) (by kernel_rfl) (by kernel_rfl) (by kernel_rfl) (fun _ _ _ h => h) (Or.inl ⟨by rfl, ?_⟩) hS ?_
            rotate_left
            · (intro w' hSw; skip; go_simp; (try with_reducible rfl))
            try simp only [Act.put, List.setIfInBounds_toArray, List.set_cons_zero, List.set_cons_succ]
            refine anyG_take0 (i := 7) (oi := ⟨_, _, _, _, _, _⟩) (v := ?_) rfl (by kernel_rfl) (by kernel_rfl) (by kernel_rfl) (by kernel_rfl) (fun _ _ _ h => h) (Or.inl ⟨by rfl, ?_⟩) hS ?_
            rotate_left
            · (intro w' hSw; have s1 := cell_below hSw q0; have s2 := cell_below hSw q1; go_simp; (try with_reducible rfl))
            try simp only [Act.put, List.setIfInBounds_toArray, List.set_cons_zero, List.set_cons_succ]
            refine anyG_take0 (i := 8) (oi := ⟨_, _, _, _, _, _⟩) (v := ?_) rfl (by kernel_rfl) (by kernel_rfl) (by kernel_rfl) (by kernel_rfl) (fun _ _ _ h => h) (Or.inl ⟨by rfl, ?_⟩) hS ?_
            rotate_left
            · (intro w' hSw; skip; go_simp; (try with_reducible rfl))
            try simp only [Act.put, List.setIfInBounds_toArray, List.set_cons_zero, List.set_cons_succ]
            refine anyG_take0 (i := 9) (oi := ⟨_, _, _, _, _, _⟩) (v := ?_) rfl (by kernel_rfl) (by kernel_rfl) (by kernel_rfl) (by kernel_rfl) (fun _ _ _ h => h) (Or.inl ⟨by rfl, ?_⟩) hS ?_
            rotate_left
            · (intro w' hSw; skip; go_simp; (try with_reducible rfl))
            try simp only [Act.put, List.setIfInBounds_toArray, List.set_cons_zero, List.set_cons_succ]
            refine anyG_all (rs := [10]) (by kernel_rfl) (by simp) (List.forall_mem_singleton.2 ?_)
            refine wpOp_step (o := ⟨_, _, _, _, _, _⟩) rfl (fun K' hK => ?_)
            have HK := Lib.hid hK
            clear hK
            rw [if_pos (by rfl)]
            go_simp
            rw [show IntKind.i64.wrap ((k : Int) + 1) = (k : Int) + 1 from IntWalk.i64_in _ (by omega)]
            refine (HRK.out _ (HD8.out.below (HB.out.trans (hS.mono HB.out.size)))).mono ?_
            rintro e V2 ⟨v, rfl, hv⟩
            obtain ⟨g2, rfl, hc, hb⟩ := read_bytes hv
            have hS := hS.trans (hb.mono hS.size)
            have HC := Lib.hid hc
            clear hv hb hc HRK
            go_wp2_with fail
            refine HK.out _ _ ⟨fun _ => hS, ?_⟩
            clear HK
            try simp only [Act.put, List.setIfInBounds_toArray, List.set_cons_zero, List.set_cons_succ]
            refine anyG_take0 (i := 11) (oi := ⟨_, _, _, _, _, _⟩) (v := ?_) rfl (by kernel_rfl) (by kernel_rfl) (by kernel_rfl) (by kernel_rfl) (fun _ _ _ h => h) (Or.inl ⟨by rfl, ?_⟩) hS ?_
            rotate_left
            · (intro w' hSw; skip; go_simp; (try with_reducible rfl))
            try simp only [Act.put, List.setIfInBounds_toArray, List.set_cons_zero, List.set_cons_succ]
            refine anyG_take0 (i := 12) (oi := ⟨_, _, _, _, _, _⟩) (v := ?_) rfl (by kernel_rfl) (by kernel_rfl) (by kernel_rfl) (by kernel_rfl) (fun _ _ _ h => h) (Or.inl ⟨by rfl, ?_⟩) hS ?_
            rotate_left
            · (intro w' hSw; skip; go_simp; (try with_reducible rfl))
            try simp only [Act.put, List.setIfInBounds_toArray, List.set_cons_zero, List.set_cons_succ]
            refine anyG_take0 (i := 13) (oi := ⟨_, _, _, _, _, _⟩) (v := ?_) rfl (by kernel_rfl) (by kernel_rfl) (by kernel_rfl) (by kernel_rfl) (fun _ _ _ h => h) (Or.inl ⟨by rfl, ?_⟩) hS ?_
            rotate_left
            · (intro w' hSw; skip; go_simp; (try with_reducible rfl))
            try simp only [Act.put, List.setIfInBounds_toArray, List.set_cons_zero, List.set_cons_succ]
            refine anyG_take0 (i := 14) (oi := ⟨_, _, _, _, _, _⟩) (v := ?_) rfl (by kernel_rfl) (by kernel_rfl) (by kernel_rfl) (by kernel_rfl) (fun _ _ _ h => h) (Or.inl ⟨by rfl, ?_⟩) hS ?_
            rotate_left
            · (intro w' hSw; skip; go_simp; (try with_reducible rfl))
            try simp only [Act.put, List.setIfInBounds_toArray, List.set_cons_zero, List.set_cons_succ]
            refine anyG_take0 (i := 15) (oi := ⟨_, _, _, _, _, _⟩) (v := ?_) rfl (by kernel_rfl) (by kernel_rfl) (by kernel_rfl) (by kernel_rfl) (fun _ _ _ h => h) (Or.inl ⟨by rfl, ?_⟩) hS ?_
            rotate_left
            · (intro w' hSw; skip; go_simp; (try with_reducible rfl))
            try simp only [Act.put, List.setIfInBounds_toArray, List.set_cons_zero, List.set_cons_succ]
            refine anyG_done (by kernel_rfl) ?_
            refine NoPanic.normal ?_
            have HS2 := Lib.hid hS
            have HO2 := Lib.hid (own_below HO.out hS)
            clear hS q0 q1 e2
            have hsz : w8.heap.size ≤ V2.heap.size := Nat.le_trans HB.out.size HS2.out.size
            have HPL2 := Lib.hid (show (bv pk.b).length = 256 * 1 by rw [bv_length, pk.len])
            obtain ⟨k6, hk6⟩ : ∃ k6, k * 256 = k6 := ⟨_, rfl⟩
            rw [hk6] at HO2 hlt hcu ⊢
            have HK6 := Lib.hid hk6
            have hk66 : k6 ≤ 16777216 := by omega
            clear hk6 hlti
            go_wp2_with (at_builtin; go_must (refine wpList_appk slU8 rfl _ _ rfl w8.heap.size (.slice Au k6 cu) k6 _ rfl HO2.out (some ⟨g2, 0, none⟩) 256 256 (bv pk.b) rfl HPL2.out HC.out (bv_one _) (by omega) (by omega) hsz ?_); intro v3 w3 hown3 hg3 hb3 hat3)
            have HO3 := Lib.hid hown3
            have HB3 := Lib.hid ((HB.out.trans (HS2.out.mono HB.out.size)).trans hb3)
            clear hown3 hg3 hb3 hat3
            go_roundw
            case rel =>
              refine ⟨k + 1, hk1, by go_num, ?_, HB3.out, fun h => absurd h (by omega)⟩
              have h1 := HO3.out
              rw [flatB_take rest hkr, HPK.out, show (k + 1) * 256 = k6 + 256 by have := HK6.out; omega]
              unfold bv at h1 ⊢
              rw [List.map_append]
              exact h1
            case measure => simp [intOf]; omega
          · have hlti : ¬ ((k : Int) * 256) < (lg : Int) := by omega
            have hke : k = (lg + 255) / 256 := by omega
            subst hke
            have hlr : lg ≤ rest.length * 256 := by rw [HPL.out]; omega
            have HBD2 := Lib.hid hlr
            have hrow : (flatB (rest.take ((lg + 255) / 256))).take lg = bodyL lg rest := rfl
            have hbl : (bodyL lg rest).length = lg := bodyL_len hlr
            have HBL := Lib.hid hbl
            obtain ⟨row, hrw⟩ : ∃ row, bodyL lg rest = row := ⟨_, rfl⟩
            have hbt0 : BytesAt wr Au ((flatB (rest.take ((lg + 255) / 256))).take lg) := (BytesAt.own HO.out).take lg
            rw [hrow, hrw] at hbt0
            rw [hrw] at HBL
            have HRW := Lib.hid hrw
            obtain ⟨K6, hK6⟩ : ∃ K6, (lg + 255) / 256 * 256 = K6 := ⟨_, rfl⟩
            rw [hK6] at hcu HO ⊢
            have hlK : lg ≤ K6 := by omega
            have hz6 : lg = 0 → K6 = 0 := fun h => by omega
            have hlc : lg ≤ cu := Nat.le_trans hlK hcu
            have hKs : K6 ≤ 16777472 := by omega
            clear hlr hrow hbl hrw hK6
            have hlq : Int.tdiv (lg : Int) 256 = ((lg / 256 : Nat) : Int) := by rw [Int.tdiv_eq_ediv_of_nonneg (by omega)]; omega
            obtain ⟨q, hq⟩ : ∃ q, lg / 256 * 256 = q := ⟨_, rfl⟩
            have hql : q ≤ lg := by omega
            have hqi : ((lg / 256 : Nat) : Int) * 256 = (q : Int) := by omega
            have hqc : q ≤ cu := by omega
            have HQ := Lib.hid hq
            clear hq
            by_cases hz : lg = 0
            · have hK0 := hz6 hz
              subst hz
              have h9 := hk0 (by decide)
              injection h9 with a9 b9 c9
              clear b9
              subst a9
              subst c9
              subst hK0
              have HBT := Lib.hid hbt0
              have hr0 : tailL row = [] := List.eq_nil_of_length_eq_zero (by rw [tailL_len, HBL.out])
              have HR0 := Lib.hid hr0
              have c4 : wr.cell? ⟨lp, 4, none⟩ = some (.slice none 0 0) := cell_of (j := 4) BLR.out rfl
              have f4 := free_of BLR.out 4
              clear hbt0 hk0 hql hqi hqc HQ hr0 hz6 hlq hlK hlc hKs
              go_wp2_with fail
              refine (cloneB_any (tailL row) none 0 0 wr (by rw [HR0.out]; rfl) (by omega) (by rw [HR0.out]; exact fun h => absurd h (by simp [bv]))).mono ?_
              rintro e w10 ⟨v', rfl, hcp⟩
              obtain ⟨At, tc, hv', htc, -⟩ := own_shape hcp.own
              subst hv'
              have HCP := Lib.hid hcp
              have b10 := (hcp.below.block lp (lt_of_block BLR.out)).trans BLR.out
              have B10 := Lib.hid b10
              have c4 : w10.cell? ⟨lp, 4, none⟩ = some (.slice none 0 0) := cell_of (j := 4) b10 rfl
              have f4 := free_of b10 4
              clear hcp b10
              go_wp2_with fail
              have b9 := setCell_heap (j := 4) (.slice At (tailL row).length tc) B10.out
              have hf9 : Fr [lp] w10 (w10.setCell ⟨lp, 4, none⟩ (.slice At (tailL row).length tc)) := (Fr.refl [lp] w10).put lp 4 _ (.inl (by simp))
              generalize w10.setCell ⟨lp, 4, none⟩ (.slice At (tailL row).length tc) = w9 at b9 hf9 ⊢
              have hk9 : U8Kept w10 w9 := U8Kept.fr hf9 fun i hi cur fr he => by
                simp only [List.mem_singleton] at hi
                subst hi
                rw [B10.out] at he
                cases he
              have HLA := Lib.hid (show LogAt w9 lp dp name 0 ct (tailL row) 0 from ⟨At, tc, b9, htc, (BytesAt.own HCP.out.own).kept hk9⟩)
              have HR9 := Lib.hid ((HBT.out.kept (U8Kept.below HCP.out.below)).kept hk9)
              have HF9 := Lib.hid (((HF8.out.and (Fr.below HB.out)).and (Fr.below HCP.out.below)).and hf9)
              clear b9 hf9 hk9 c4 f4
              go_loopw [11, 15] (fun u en wr => ∃ (r : List UInt8) (es : List (List UInt8)) (vs : List Value) (A : Option Addr) (c : Nat), u = .slice A r.length c ∧ r.length ≤ c ∧ BytesAt wr A r ∧ wr.ownsRow w9.heap.size 30 1 en es.length vs ∧ EntVs wr vs es ∧ parseL row = (parseL r).map (es ++ ·) ∧ Below w9.heap.size w9 wr ∧ es.length + r.length ≤ 0) (fun u _ _ => sliceLen u)
              case atStart => exact ⟨row, [], [], none, 0, by rw [HBL.out], by rw [HBL.out]; exact Nat.le_refl _, HR9.out, World.ownsRow_nil _ _ _ _, EntVs.nil _, by cases parseL row <;> rfl, Below.refl _ _, by rw [HBL.out]; simp⟩
              case round =>
                obtain ⟨r, es, vs, A, c, rfl, hrc, hbt, hown, hev, hpar, hbr, hel⟩ := hrel
                obtain ⟨Ae, ce, he, hce, hcells⟩ := own_shape hown
                subst he
                have HBT := Lib.hid hbt
                have HO := Lib.hid hown
                have HEV := Lib.hid hev
                have HP := Lib.hid hpar
                have HBR := Lib.hid hbr
                obtain ⟨rl, hrl⟩ : ∃ rl, r.length = rl := ⟨_, rfl⟩
                obtain ⟨el, hel2⟩ : ∃ el, es.length = el := ⟨_, rfl⟩
                rw [hrl] at hrc hel ⊢
                rw [hel2] at HO hce hel ⊢
                have HRL := Lib.hid hrl
                have HEL := Lib.hid hel2
                clear hbt hown hev hpar hbr hcells hrl hel2
                by_cases h4 : 4 ≤ rl
                · obtain ⟨ar, har, -⟩ := HBT.out.cells (by rw [bv_length, HRL.out]; omega)
                  subst har
                  have h4i : ((rl : Int) ≥ 4) := by omega
                  have hv := value_any (some ar) 4 c (r.take 4) wr ((HBT.out.take 4).cells) (by rw [List.length_take, HRL.out]; omega) (by decide)
                  obtain ⟨n0, hn0⟩ : ∃ n0, valL (r.take 4) = n0 := ⟨_, rfl⟩
                  have hn32 : n0 < 4294967296 := by
                    have := valL_lt r 4 (by rw [HRL.out]; exact h4)
                    omega
                  rw [hn0] at hv
                  have HV := Lib.hid hv
                  have HN0 := Lib.hid hn0
                  clear hv hn0
                  go_wp2_with fail
                  refine HV.out.mono ?_
                  rintro e w' ⟨rfl, rfl⟩
                  have hlong : parseL r = if rl - 4 < n0 then none else (parseL (r.drop (4 + n0))).map fun es => (r.drop 4).take n0 :: es := by
                    rw [parseL_long (by rw [HRL.out]; exact h4), HRL.out, HN0.out]
                  have HLONG := Lib.hid hlong
                  clear hlong HV
                  by_cases hbad : rl - 4 < n0
                  · have hd : ((n0 : Int) > ((rl : Int) - 4)) := by omega
                    have HN := Lib.hid (readL_torn HBD.out (by rw [show (headP p0).long = 0 from HLG.out, HRW.out, HP.out, HLONG.out, if_pos hbad]; rfl))
                    go_wp2_with fail
                    refine bodyPost_ret (results_tmp2 rfl _ _ _) rfl ?_
                    rw [HN.out]
                    exact ⟨HF9.out.and (Fr.below HBR.out), rfl⟩
                  · have hd : ¬ ((n0 : Int) > ((rl : Int) - 4)) := by omega
                    have hle4 : 4 + n0 ≤ rl := by omega
                    have hpr : parseL row = (parseL (r.drop (4 + n0))).map ((es ++ [(r.drop 4).take n0]) ++ ·) := by
                      rw [HP.out, HLONG.out, if_neg hbad, Option.map_map]
                      congr 1
                      funext x
                      simp
                    have he0 : ((r.drop 4).take n0).length = n0 := by rw [List.length_take, List.length_drop, HRL.out]; omega
                    have hdl : (r.drop (4 + n0)).length = rl - (4 + n0) := by rw [List.length_drop, HRL.out]
                    obtain ⟨e0, he0'⟩ : ∃ e0, (r.drop 4).take n0 = e0 := ⟨_, rfl⟩
                    rw [he0'] at hpr he0
                    have HPR := Lib.hid hpr
                    have HE0 := Lib.hid he0
                    have HE0' := Lib.hid he0'
                    have HDL := Lib.hid hdl
                    have hn0s : n0 ≤ 16777216 := by omega
                    have hels : el ≤ 16777216 := by omega
                    clear hpr he0 he0' hdl
                    by_cases hc4 : c = 4
                    · have hn00 : n0 = 0 := by omega
                      subst hc4
                      subst hn00
                      have hrl4 : rl = 4 := by omega
                      exact absurd h4 (by omega)
                    · by_cases hcn : c = 4 + n0
                      · subst hcn
                        have hrl5 : rl = 4 + n0 := by omega
                        exact absurd h4 (by omega)
                      · exact absurd h4 (by omega)
                · have h4i : ¬ ((rl : Int) ≥ 4) := by omega
                  have hshort : parseL r = if r = [] then some [] else none := parseL_short (by rw [HRL.out]; omega)
                  have e3 : wr.cell? ⟨lp, 3, none⟩ = some (.int .i64 (ct : Int)) := by
                    obtain ⟨A', c', hb9, -, -⟩ := HLA.out.at_
                    exact cell_of (j := 3) ((HBR.out.block lp (lt_of_block hb9)).trans hb9) rfl
                  by_cases h0 : rl = 0
                  · have hr0 : r = [] := List.eq_nil_of_length_eq_zero (by rw [HRL.out]; exact h0)
                    have hps : parseL row = some es := by rw [HP.out, hshort, if_pos hr0]; simp
                    have HPS := Lib.hid hps
                    have hdz : decide ((rl : Int) > 0) = false := decide_eq_false (by omega)
                    have hdz2 : decide (0 < rl) = false := decide_eq_false (by omega)
                    clear hshort hps hr0
                    by_cases hcc : el = ct
                    · have HOK := Lib.hid (readL_ok HBD.out (by rw [show (headP p0).long = 0 from HLG.out, HRW.out]; exact HPS.out) (by rw [HEL.out, hcc]; exact HCT.out.symm))
                      have hcci : ((el : Int) = (ct : Int)) := by omega
                      go_wp2_with fail
                      refine bodyPost_ret (results_tmp2 rfl _ _ _) rfl ?_
                      rw [HOK.out, show (headP p0).long = 0 from HLG.out, HRW.out]
                      refine ⟨HF9.out.and (Fr.below HBR.out), _, vs, rfl, ?_, HEV.out, ?_⟩
                      · have h9 := HO.out
                        rw [hcc] at h9
                        rw [HEL.out, hcc]
                        exact own_to h9 HF9.out.size
                      · rw [HEL.out, hcc]; exact HLA.out.below HBR.out
                    · have HN := Lib.hid (readL_count HBD.out (by rw [show (headP p0).long = 0 from HLG.out, HRW.out]; exact HPS.out) (by rw [HEL.out]; exact fun h => hcc (h.trans HCT.out)))
                      have hcci : ¬ ((el : Int) = (ct : Int)) := by omega
                      go_wp2_with fail
                      refine bodyPost_ret (results_tmp2 rfl _ _ _) rfl ?_
                      rw [HN.out]
                      exact ⟨HF9.out.and (Fr.below HBR.out), rfl⟩
                  · have hr0 : ¬ r = [] := fun h => h0 (by rw [← HRL.out, h]; rfl)
                    have hps : parseL row = none := by rw [HP.out, hshort, if_neg hr0]; rfl
                    have HN := Lib.hid (readL_torn HBD.out (by rw [show (headP p0).long = 0 from HLG.out, HRW.out]; exact hps))
                    have hdz : decide ((rl : Int) > 0) = true := decide_eq_true (by omega)
                    have hdz2 : decide (0 < rl) = true := decide_eq_true (by omega)
                    clear hshort hps hr0
                    go_wp2_with fail
                    refine bodyPost_ret (results_tmp2 rfl _ _ _) rfl ?_
                    rw [HN.out]
                    exact ⟨HF9.out.and (Fr.below HBR.out), rfl⟩
            · obtain ⟨al, hal, -⟩ := hbt0.cells (by rw [bv_length, HBL.out]; omega)
              subst hal
              have HBT := Lib.hid hbt0
              have htl : (tailL row).length = lg - lg / 256 * 256 := by rw [tailL_len, HBL.out]; omega
              have HTL := Lib.hid htl
              have c4 : wr.cell? ⟨lp, 4, none⟩ = some (.slice none 0 0) := cell_of (j := 4) BLR.out rfl
              have f4 := free_of BLR.out 4
              have htb : tailL row = row.drop (lg / 256 * 256) := by unfold tailL; rw [HBL.out]
              have HTB := Lib.hid htb
              clear hbt0 hk0 hql hqi hqc HQ htl htb hz6
              by_cases hcut : cu = lg / 256 * 256
              · have hle : lg = lg / 256 * 256 := by omega
                have HLE := Lib.hid hle
                clear hle
                subst hcut
                go_wp2_with fail
                refine (cloneB_any (tailL row) (some al) 0 0 wr (by rw [HTL.out]; have := HLE.out; omega) (by omega) (by rw [show tailL row = [] from List.eq_nil_of_length_eq_zero (by rw [HTL.out]; have := HLE.out; omega)]; exact fun h => absurd h (by simp [bv]))).mono ?_
                rintro e w10 ⟨v', rfl, hcp⟩
                obtain ⟨At, tc, hv', htc, -⟩ := own_shape hcp.own
                subst hv'
                have HCP := Lib.hid hcp
                have b10 := (hcp.below.block lp (lt_of_block BLR.out)).trans BLR.out
                have B10 := Lib.hid b10
                have c4 : w10.cell? ⟨lp, 4, none⟩ = some (.slice none 0 0) := cell_of (j := 4) b10 rfl
                have f4 := free_of b10 4
                clear hcp b10
                go_wp2_with fail
                have b9 := setCell_heap (j := 4) (.slice At (tailL row).length tc) B10.out
                have hf9 : Fr [lp] w10 (w10.setCell ⟨lp, 4, none⟩ (.slice At (tailL row).length tc)) := (Fr.refl [lp] w10).put lp 4 _ (.inl (by simp))
                generalize w10.setCell ⟨lp, 4, none⟩ (.slice At (tailL row).length tc) = w9 at b9 hf9 ⊢
                have hk9 : U8Kept w10 w9 := U8Kept.fr hf9 fun i hi cur fr he => by
                  simp only [List.mem_singleton] at hi
                  subst hi
                  rw [B10.out] at he
                  cases he
                have HLA := Lib.hid (show LogAt w9 lp dp name lg ct (tailL row) 0 from ⟨At, tc, b9, htc, (BytesAt.own HCP.out.own).kept hk9⟩)
                have HR9 := Lib.hid ((HBT.out.kept (U8Kept.below HCP.out.below)).kept hk9)
                have HF9 := Lib.hid (((HF8.out.and (Fr.below HB.out)).and (Fr.below HCP.out.below)).and hf9)
                clear b9 hf9 hk9 c4 f4
                go_loopw [11, 15] (fun u en wr => ∃ (r : List UInt8) (es : List (List UInt8)) (vs : List Value) (A : Option Addr) (c : Nat), u = .slice A r.length c ∧ r.length ≤ c ∧ BytesAt wr A r ∧ wr.ownsRow w9.heap.size 30 1 en es.length vs ∧ EntVs wr vs es ∧ parseL row = (parseL r).map (es ++ ·) ∧ Below w9.heap.size w9 wr ∧ es.length + r.length ≤ lg) (fun u _ _ => sliceLen u)
                case atStart => exact ⟨row, [], [], some al, (lg / 256 * 256), by rw [HBL.out], by rw [HBL.out]; exact by omega, HR9.out, World.ownsRow_nil _ _ _ _, EntVs.nil _, by cases parseL row <;> rfl, Below.refl _ _, by rw [HBL.out]; simp⟩
                case round =>
                  obtain ⟨r, es, vs, A, c, rfl, hrc, hbt, hown, hev, hpar, hbr, hel⟩ := hrel
                  obtain ⟨Ae, ce, he, hce, hcells⟩ := own_shape hown
                  subst he
                  have HBT := Lib.hid hbt
                  have HO := Lib.hid hown
                  have HEV := Lib.hid hev
                  have HP := Lib.hid hpar
                  have HBR := Lib.hid hbr
                  obtain ⟨rl, hrl⟩ : ∃ rl, r.length = rl := ⟨_, rfl⟩
                  obtain ⟨el, hel2⟩ : ∃ el, es.length = el := ⟨_, rfl⟩
                  rw [hrl] at hrc hel ⊢
                  rw [hel2] at HO hce hel ⊢
                  have HRL := Lib.hid hrl
                  have HEL := Lib.hid hel2
                  clear hbt hown hev hpar hbr hcells hrl hel2
                  by_cases h4 : 4 ≤ rl
                  · obtain ⟨ar, har, -⟩ := HBT.out.cells (by rw [bv_length, HRL.out]; omega)
                    subst har
                    have h4i : ((rl : Int) ≥ 4) := by omega
                    have hv := value_any (some ar) 4 c (r.take 4) wr ((HBT.out.take 4).cells) (by rw [List.length_take, HRL.out]; omega) (by decide)
                    obtain ⟨n0, hn0⟩ : ∃ n0, valL (r.take 4) = n0 := ⟨_, rfl⟩
                    have hn32 : n0 < 4294967296 := by
                      have := valL_lt r 4 (by rw [HRL.out]; exact h4)
                      omega
                    rw [hn0] at hv
                    have HV := Lib.hid hv
                    have HN0 := Lib.hid hn0
                    clear hv hn0
                    go_wp2_with fail
                    refine HV.out.mono ?_
                    rintro e w' ⟨rfl, rfl⟩
                    have hlong : parseL r = if rl - 4 < n0 then none else (parseL (r.drop (4 + n0))).map fun es => (r.drop 4).take n0 :: es := by
                      rw [parseL_long (by rw [HRL.out]; exact h4), HRL.out, HN0.out]
                    have HLONG := Lib.hid hlong
                    clear hlong HV
                    by_cases hbad : rl - 4 < n0
                    · have hd : ((n0 : Int) > ((rl : Int) - 4)) := by omega
                      have HN := Lib.hid (readL_torn HBD.out (by rw [show (headP p0).long = lg from HLG.out, HRW.out, HP.out, HLONG.out, if_pos hbad]; rfl))
                      go_wp2_with fail
                      refine bodyPost_ret (results_tmp2 rfl _ _ _) rfl ?_
                      rw [HN.out]
                      exact ⟨HF9.out.and (Fr.below HBR.out), rfl⟩
                    · have hd : ¬ ((n0 : Int) > ((rl : Int) - 4)) := by omega
                      have hle4 : 4 + n0 ≤ rl := by omega
                      have hpr : parseL row = (parseL (r.drop (4 + n0))).map ((es ++ [(r.drop 4).take n0]) ++ ·) := by
                        rw [HP.out, HLONG.out, if_neg hbad, Option.map_map]
                        congr 1
                        funext x
                        simp
                      have he0 : ((r.drop 4).take n0).length = n0 := by rw [List.length_take, List.length_drop, HRL.out]; omega
                      have hdl : (r.drop (4 + n0)).length = rl - (4 + n0) := by rw [List.length_drop, HRL.out]
                      obtain ⟨e0, he0'⟩ : ∃ e0, (r.drop 4).take n0 = e0 := ⟨_, rfl⟩
                      rw [he0'] at hpr he0
                      have HPR := Lib.hid hpr
                      have HE0 := Lib.hid he0
                      have HE0' := Lib.hid he0'
                      have HDL := Lib.hid hdl
                      have hn0s : n0 ≤ 16777216 := by omega
                      have hels : el ≤ 16777216 := by omega
                      clear hpr he0 he0' hdl
                      by_cases hc4 : c = 4
                      · have hn00 : n0 = 0 := by omega
                        subst hc4
                        subst hn00
                        have hrl4 : rl = 4 := by omega
                        have hcl := cloneB_any e0 (some ar) 0 0 wr HE0.out (by omega) (by rw [show e0 = [] from List.eq_nil_of_length_eq_zero HE0.out]; exact fun h => absurd h (by simp [bv]))
                        have HCL := Lib.hid hcl
                        clear hcl
                        go_wp2_with fail
                        refine HCL.out.mono ?_
                        rintro e V ⟨v0, rfl, hcp⟩
                        obtain ⟨Ac, cc, hv0, hcc, -⟩ := own_shape hcp.own
                        rw [HE0.out] at hv0 hcc
                        subst hv0
                        have HCPE := Lib.hid hcp
                        have HCN := Lib.hid (fresh_cells V #[.slice Ac 0 cc] 30)
                        have hb5 : Below V.heap.size V (V.alloc (.cells #[.slice Ac 0 cc] 30)) := (Below.refl _ _).alloc (Nat.le_refl _) _
                        have HV5 := Lib.hid hb5
                        have HB5 := Lib.hid (hcp.below.trans (hb5.mono hcp.below.size))
                        have HO5 := Lib.hid (own_below HO.out HB5.out)
                        have HS5 := Lib.hid (Nat.le_trans HBR.out.size HB5.out.size)
                        have HCC := Lib.hid hcc
                        clear hcp hb5 HCL hcc
                        go_wp2_with (at_builtin; go_must (refine wpList_appk slB rfl _ _ rfl w9.heap.size (.slice Ae el ce) el vs rfl HO5.out (some ⟨V.heap.size, 0, none⟩) 1 1 [Value.slice Ac 0 cc] rfl rfl HCN.out (by intro u hu; simp only [List.mem_singleton] at hu; subst hu; rfl) (by omega) (by omega) HS5.out ?_); intro v7 w7 hown7 hg7 hb7 hat7)
                        have HO7 := Lib.hid hown7
                        have HU7 := Lib.hid (u8_grown hg7 HO5.out)
                        have HBW := Lib.hid ((HBR.out.trans (HB5.out.mono HBR.out.size)).trans hb7)
                        have HUW := Lib.hid ((U8Kept.below HB5.out).trans HU7.out)
                        clear hown7 hg7 hb7 hat7
                        go_roundw
                        case rel =>
                          refine ⟨r.drop (4 + 0), es ++ [e0], vs ++ [.slice Ac 0 cc], some ar, 0, by rw [HDL.out]; subst hrl4; rfl, by rw [HDL.out]; omega, nil_at HBT.out HUW.out (by rw [HDL.out]; omega), ?_, ?_, HPR.out, HBW.out, by rw [List.length_append, HEL.out, HDL.out, List.length_singleton]; omega⟩
                          · rw [List.length_append, HEL.out]; exact HO7.out
                          · have h1 := (HEV.out.kept HUW.out).snoc (e := e0) (A := Ac) (c := cc) (by rw [HE0.out]; exact HCC.out) ?_
                            · rw [HE0.out] at h1; exact h1
                            · exact (BytesAt.own (n := 0) (c := cc) (by have h2 := HCPE.out.own; rw [HE0.out] at h2; exact h2)).kept ((U8Kept.below HV5.out).trans HU7.out)
                        case measure => first | (simp [sliceLen]; done) | (simp [sliceLen]; omega)
                      · by_cases hcn : c = 4 + n0
                        · subst hcn
                          have hrl5 : rl = 4 + n0 := by omega
                          have hcl := cloneB_any e0 (some ⟨ar.block, ar.off + 4, none⟩) n0 n0 wr HE0.out (by omega) (by rw [← HE0'.out]; exact ((HBT.out.off (by decide)).take n0).cells)
                          have HCL := Lib.hid hcl
                          clear hcl
                          go_wp2_with fail
                          refine HCL.out.mono ?_
                          rintro e V ⟨v0, rfl, hcp⟩
                          obtain ⟨Ac, cc, hv0, hcc, -⟩ := own_shape hcp.own
                          rw [HE0.out] at hv0 hcc
                          subst hv0
                          have HCPE := Lib.hid hcp
                          have HCN := Lib.hid (fresh_cells V #[.slice Ac n0 cc] 30)
                          have hb5 : Below V.heap.size V (V.alloc (.cells #[.slice Ac n0 cc] 30)) := (Below.refl _ _).alloc (Nat.le_refl _) _
                          have HV5 := Lib.hid hb5
                          have HB5 := Lib.hid (hcp.below.trans (hb5.mono hcp.below.size))
                          have HO5 := Lib.hid (own_below HO.out HB5.out)
                          have HS5 := Lib.hid (Nat.le_trans HBR.out.size HB5.out.size)
                          have HCC := Lib.hid hcc
                          clear hcp hb5 HCL hcc
                          go_wp2_with (at_builtin; go_must (refine wpList_appk slB rfl _ _ rfl w9.heap.size (.slice Ae el ce) el vs rfl HO5.out (some ⟨V.heap.size, 0, none⟩) 1 1 [Value.slice Ac n0 cc] rfl rfl HCN.out (by intro u hu; simp only [List.mem_singleton] at hu; subst hu; rfl) (by omega) (by omega) HS5.out ?_); intro v7 w7 hown7 hg7 hb7 hat7)
                          have HO7 := Lib.hid hown7
                          have HU7 := Lib.hid (u8_grown hg7 HO5.out)
                          have HBW := Lib.hid ((HBR.out.trans (HB5.out.mono HBR.out.size)).trans hb7)
                          have HUW := Lib.hid ((U8Kept.below HB5.out).trans HU7.out)
                          clear hown7 hg7 hb7 hat7
                          go_roundw
                          case rel =>
                            refine ⟨r.drop (4 + n0), es ++ [e0], vs ++ [.slice Ac n0 cc], some ar, 0, by rw [HDL.out]; subst hrl5; simp, by rw [HDL.out]; omega, nil_at HBT.out HUW.out (by rw [HDL.out]; omega), ?_, ?_, HPR.out, HBW.out, by rw [List.length_append, HEL.out, HDL.out, List.length_singleton]; omega⟩
                            · rw [List.length_append, HEL.out]; exact HO7.out
                            · have h1 := (HEV.out.kept HUW.out).snoc (e := e0) (A := Ac) (c := cc) (by rw [HE0.out]; exact HCC.out) ?_
                              · rw [HE0.out] at h1; exact h1
                              · exact (BytesAt.own (n := n0) (c := cc) (by have h2 := HCPE.out.own; rw [HE0.out] at h2; exact h2)).kept ((U8Kept.below HV5.out).trans HU7.out)
                          case measure => first | (simp [sliceLen]; done) | (simp [sliceLen]; omega)
                        · have hcl := cloneB_any e0 (some ⟨ar.block, ar.off + 4, none⟩) n0 (c - 4) wr HE0.out (by omega) (by rw [← HE0'.out]; exact ((HBT.out.off (by decide)).take n0).cells)
                          have HCL := Lib.hid hcl
                          clear hcl
                          go_wp2_with fail
                          refine HCL.out.mono ?_
                          rintro e V ⟨v0, rfl, hcp⟩
                          obtain ⟨Ac, cc, hv0, hcc, -⟩ := own_shape hcp.own
                          rw [HE0.out] at hv0 hcc
                          subst hv0
                          have HCPE := Lib.hid hcp
                          have HCN := Lib.hid (fresh_cells V #[.slice Ac n0 cc] 30)
                          have hb5 : Below V.heap.size V (V.alloc (.cells #[.slice Ac n0 cc] 30)) := (Below.refl _ _).alloc (Nat.le_refl _) _
                          have HV5 := Lib.hid hb5
                          have HB5 := Lib.hid (hcp.below.trans (hb5.mono hcp.below.size))
                          have HO5 := Lib.hid (own_below HO.out HB5.out)
                          have HS5 := Lib.hid (Nat.le_trans HBR.out.size HB5.out.size)
                          have HCC := Lib.hid hcc
                          clear hcp hb5 HCL hcc
                          go_wp2_with (at_builtin; go_must (refine wpList_appk slB rfl _ _ rfl w9.heap.size (.slice Ae el ce) el vs rfl HO5.out (some ⟨V.heap.size, 0, none⟩) 1 1 [Value.slice Ac n0 cc] rfl rfl HCN.out (by intro u hu; simp only [List.mem_singleton] at hu; subst hu; rfl) (by omega) (by omega) HS5.out ?_); intro v7 w7 hown7 hg7 hb7 hat7)
                          have HO7 := Lib.hid hown7
                          have HU7 := Lib.hid (u8_grown hg7 HO5.out)
                          have HBW := Lib.hid ((HBR.out.trans (HB5.out.mono HBR.out.size)).trans hb7)
                          have HUW := Lib.hid ((U8Kept.below HB5.out).trans HU7.out)
                          clear hown7 hg7 hb7 hat7
                          go_roundw
                          case rel =>
                            refine ⟨r.drop (4 + n0), es ++ [e0], vs ++ [.slice Ac n0 cc], some (ar.add (4 + n0)), (c - (4 + n0)), by rw [HDL.out], by rw [HDL.out]; omega, (HBT.out.drop (4 + n0)).kept HUW.out, ?_, ?_, HPR.out, HBW.out, by rw [List.length_append, HEL.out, HDL.out, List.length_singleton]; omega⟩
                            · rw [List.length_append, HEL.out]; exact HO7.out
                            · have h1 := (HEV.out.kept HUW.out).snoc (e := e0) (A := Ac) (c := cc) (by rw [HE0.out]; exact HCC.out) ?_
                              · rw [HE0.out] at h1; exact h1
                              · exact (BytesAt.own (n := n0) (c := cc) (by have h2 := HCPE.out.own; rw [HE0.out] at h2; exact h2)).kept ((U8Kept.below HV5.out).trans HU7.out)
                          case measure => first | (simp [sliceLen]; done) | (simp [sliceLen]; omega)
                  · have h4i : ¬ ((rl : Int) ≥ 4) := by omega
                    have hshort : parseL r = if r = [] then some [] else none := parseL_short (by rw [HRL.out]; omega)
                    have e3 : wr.cell? ⟨lp, 3, none⟩ = some (.int .i64 (ct : Int)) := by
                      obtain ⟨A', c', hb9, -, -⟩ := HLA.out.at_
                      exact cell_of (j := 3) ((HBR.out.block lp (lt_of_block hb9)).trans hb9) rfl
                    by_cases h0 : rl = 0
                    · have hr0 : r = [] := List.eq_nil_of_length_eq_zero (by rw [HRL.out]; exact h0)
                      have hps : parseL row = some es := by rw [HP.out, hshort, if_pos hr0]; simp
                      have HPS := Lib.hid hps
                      have hdz : decide ((rl : Int) > 0) = false := decide_eq_false (by omega)
                      have hdz2 : decide (0 < rl) = false := decide_eq_false (by omega)
                      clear hshort hps hr0
                      by_cases hcc : el = ct
                      · have HOK := Lib.hid (readL_ok HBD.out (by rw [show (headP p0).long = lg from HLG.out, HRW.out]; exact HPS.out) (by rw [HEL.out, hcc]; exact HCT.out.symm))
                        have hcci : ((el : Int) = (ct : Int)) := by omega
                        go_wp2_with fail
                        refine bodyPost_ret (results_tmp2 rfl _ _ _) rfl ?_
                        rw [HOK.out, show (headP p0).long = lg from HLG.out, HRW.out]
                        refine ⟨HF9.out.and (Fr.below HBR.out), _, vs, rfl, ?_, HEV.out, ?_⟩
                        · have h9 := HO.out
                          rw [hcc] at h9
                          rw [HEL.out, hcc]
                          exact own_to h9 HF9.out.size
                        · rw [HEL.out, hcc]; exact HLA.out.below HBR.out
                      · have HN := Lib.hid (readL_count HBD.out (by rw [show (headP p0).long = lg from HLG.out, HRW.out]; exact HPS.out) (by rw [HEL.out]; exact fun h => hcc (h.trans HCT.out)))
                        have hcci : ¬ ((el : Int) = (ct : Int)) := by omega
                        go_wp2_with fail
                        refine bodyPost_ret (results_tmp2 rfl _ _ _) rfl ?_
                        rw [HN.out]
                        exact ⟨HF9.out.and (Fr.below HBR.out), rfl⟩
                    · have hr0 : ¬ r = [] := fun h => h0 (by rw [← HRL.out, h]; rfl)
                      have hps : parseL row = none := by rw [HP.out, hshort, if_neg hr0]; rfl
                      have HN := Lib.hid (readL_torn HBD.out (by rw [show (headP p0).long = lg from HLG.out, HRW.out]; exact hps))
                      have hdz : decide ((rl : Int) > 0) = true := decide_eq_true (by omega)
                      have hdz2 : decide (0 < rl) = true := decide_eq_true (by omega)
                      clear hshort hps hr0
                      go_wp2_with fail
                      refine bodyPost_ret (results_tmp2 rfl _ _ _) rfl ?_
                      rw [HN.out]
                      exact ⟨HF9.out.and (Fr.below HBR.out), rfl⟩
              · go_wp2_with fail
                refine (cloneB_any (tailL row) (some (al.add (lg / 256 * 256))) (lg - lg / 256 * 256) (cu - lg / 256 * 256) wr HTL.out (by omega) (by rw [HTB.out]; exact (HBT.out.drop _).cells)).mono ?_
                rintro e w10 ⟨v', rfl, hcp⟩
                obtain ⟨At, tc, hv', htc, -⟩ := own_shape hcp.own
                subst hv'
                have HCP := Lib.hid hcp
                have b10 := (hcp.below.block lp (lt_of_block BLR.out)).trans BLR.out
                have B10 := Lib.hid b10
                have c4 : w10.cell? ⟨lp, 4, none⟩ = some (.slice none 0 0) := cell_of (j := 4) b10 rfl
                have f4 := free_of b10 4
                clear hcp b10
                go_wp2_with fail
                have b9 := setCell_heap (j := 4) (.slice At (tailL row).length tc) B10.out
                have hf9 : Fr [lp] w10 (w10.setCell ⟨lp, 4, none⟩ (.slice At (tailL row).length tc)) := (Fr.refl [lp] w10).put lp 4 _ (.inl (by simp))
                generalize w10.setCell ⟨lp, 4, none⟩ (.slice At (tailL row).length tc) = w9 at b9 hf9 ⊢
                have hk9 : U8Kept w10 w9 := U8Kept.fr hf9 fun i hi cur fr he => by
                  simp only [List.mem_singleton] at hi
                  subst hi
                  rw [B10.out] at he
                  cases he
                have HLA := Lib.hid (show LogAt w9 lp dp name lg ct (tailL row) 0 from ⟨At, tc, b9, htc, (BytesAt.own HCP.out.own).kept hk9⟩)
                have HR9 := Lib.hid ((HBT.out.kept (U8Kept.below HCP.out.below)).kept hk9)
                have HF9 := Lib.hid (((HF8.out.and (Fr.below HB.out)).and (Fr.below HCP.out.below)).and hf9)
                clear b9 hf9 hk9 c4 f4
                go_loopw [11, 15] (fun u en wr => ∃ (r : List UInt8) (es : List (List UInt8)) (vs : List Value) (A : Option Addr) (c : Nat), u = .slice A r.length c ∧ r.length ≤ c ∧ BytesAt wr A r ∧ wr.ownsRow w9.heap.size 30 1 en es.length vs ∧ EntVs wr vs es ∧ parseL row = (parseL r).map (es ++ ·) ∧ Below w9.heap.size w9 wr ∧ es.length + r.length ≤ lg) (fun u _ _ => sliceLen u)
                case atStart => exact ⟨row, [], [], some al, cu, by rw [HBL.out], by rw [HBL.out]; exact hlc, HR9.out, World.ownsRow_nil _ _ _ _, EntVs.nil _, by cases parseL row <;> rfl, Below.refl _ _, by rw [HBL.out]; simp⟩
                case round =>
                  obtain ⟨r, es, vs, A, c, rfl, hrc, hbt, hown, hev, hpar, hbr, hel⟩ := hrel
                  obtain ⟨Ae, ce, he, hce, hcells⟩ := own_shape hown
                  subst he
                  have HBT := Lib.hid hbt
                  have HO := Lib.hid hown
                  have HEV := Lib.hid hev
                  have HP := Lib.hid hpar
                  have HBR := Lib.hid hbr
                  obtain ⟨rl, hrl⟩ : ∃ rl, r.length = rl := ⟨_, rfl⟩
                  obtain ⟨el, hel2⟩ : ∃ el, es.length = el := ⟨_, rfl⟩
                  rw [hrl] at hrc hel ⊢
                  rw [hel2] at HO hce hel ⊢
                  have HRL := Lib.hid hrl
                  have HEL := Lib.hid hel2
                  clear hbt hown hev hpar hbr hcells hrl hel2
                  by_cases h4 : 4 ≤ rl
                  · obtain ⟨ar, har, -⟩ := HBT.out.cells (by rw [bv_length, HRL.out]; omega)
                    subst har
                    have h4i : ((rl : Int) ≥ 4) := by omega
                    have hv := value_any (some ar) 4 c (r.take 4) wr ((HBT.out.take 4).cells) (by rw [List.length_take, HRL.out]; omega) (by decide)
                    obtain ⟨n0, hn0⟩ : ∃ n0, valL (r.take 4) = n0 := ⟨_, rfl⟩
                    have hn32 : n0 < 4294967296 := by
                      have := valL_lt r 4 (by rw [HRL.out]; exact h4)
                      omega
                    rw [hn0] at hv
                    have HV := Lib.hid hv
                    have HN0 := Lib.hid hn0
                    clear hv hn0
                    go_wp2_with fail
                    refine HV.out.mono ?_
                    rintro e w' ⟨rfl, rfl⟩
                    have hlong : parseL r = if rl - 4 < n0 then none else (parseL (r.drop (4 + n0))).map fun es => (r.drop 4).take n0 :: es := by
                      rw [parseL_long (by rw [HRL.out]; exact h4), HRL.out, HN0.out]
                    have HLONG := Lib.hid hlong
                    clear hlong HV
                    by_cases hbad : rl - 4 < n0
                    · have hd : ((n0 : Int) > ((rl : Int) - 4)) := by omega
                      have HN := Lib.hid (readL_torn HBD.out (by rw [show (headP p0).long = lg from HLG.out, HRW.out, HP.out, HLONG.out, if_pos hbad]; rfl))
                      go_wp2_with fail
                      refine bodyPost_ret (results_tmp2 rfl _ _ _) rfl ?_
                      rw [HN.out]
                      exact ⟨HF9.out.and (Fr.below HBR.out), rfl⟩
                    · have hd : ¬ ((n0 : Int) > ((rl : Int) - 4)) := by omega
                      have hle4 : 4 + n0 ≤ rl := by omega
                      have hpr : parseL row = (parseL (r.drop (4 + n0))).map ((es ++ [(r.drop 4).take n0]) ++ ·) := by
                        rw [HP.out, HLONG.out, if_neg hbad, Option.map_map]
                        congr 1
                        funext x
                        simp
                      have he0 : ((r.drop 4).take n0).length = n0 := by rw [List.length_take, List.length_drop, HRL.out]; omega
                      have hdl : (r.drop (4 + n0)).length = rl - (4 + n0) := by rw [List.length_drop, HRL.out]
                      obtain ⟨e0, he0'⟩ : ∃ e0, (r.drop 4).take n0 = e0 := ⟨_, rfl⟩
                      rw [he0'] at hpr he0
                      have HPR := Lib.hid hpr
                      have HE0 := Lib.hid he0
                      have HE0' := Lib.hid he0'
                      have HDL := Lib.hid hdl
                      have hn0s : n0 ≤ 16777216 := by omega
                      have hels : el ≤ 16777216 := by omega
                      clear hpr he0 he0' hdl
                      by_cases hc4 : c = 4
                      · have hn00 : n0 = 0 := by omega
                        subst hc4
                        subst hn00
                        have hrl4 : rl = 4 := by omega
                        have hcl := cloneB_any e0 (some ar) 0 0 wr HE0.out (by omega) (by rw [show e0 = [] from List.eq_nil_of_length_eq_zero HE0.out]; exact fun h => absurd h (by simp [bv]))
                        have HCL := Lib.hid hcl
                        clear hcl
                        go_wp2_with fail
                        refine HCL.out.mono ?_
                        rintro e V ⟨v0, rfl, hcp⟩
                        obtain ⟨Ac, cc, hv0, hcc, -⟩ := own_shape hcp.own
                        rw [HE0.out] at hv0 hcc
                        subst hv0
                        have HCPE := Lib.hid hcp
                        have HCN := Lib.hid (fresh_cells V #[.slice Ac 0 cc] 30)
                        have hb5 : Below V.heap.size V (V.alloc (.cells #[.slice Ac 0 cc] 30)) := (Below.refl _ _).alloc (Nat.le_refl _) _
                        have HV5 := Lib.hid hb5
                        have HB5 := Lib.hid (hcp.below.trans (hb5.mono hcp.below.size))
                        have HO5 := Lib.hid (own_below HO.out HB5.out)
                        have HS5 := Lib.hid (Nat.le_trans HBR.out.size HB5.out.size)
                        have HCC := Lib.hid hcc
                        clear hcp hb5 HCL hcc
                        go_wp2_with (at_builtin; go_must (refine wpList_appk slB rfl _ _ rfl w9.heap.size (.slice Ae el ce) el vs rfl HO5.out (some ⟨V.heap.size, 0, none⟩) 1 1 [Value.slice Ac 0 cc] rfl rfl HCN.out (by intro u hu; simp only [List.mem_singleton] at hu; subst hu; rfl) (by omega) (by omega) HS5.out ?_); intro v7 w7 hown7 hg7 hb7 hat7)
                        have HO7 := Lib.hid hown7
                        have HU7 := Lib.hid (u8_grown hg7 HO5.out)
                        have HBW := Lib.hid ((HBR.out.trans (HB5.out.mono HBR.out.size)).trans hb7)
                        have HUW := Lib.hid ((U8Kept.below HB5.out).trans HU7.out)
                        clear hown7 hg7 hb7 hat7
                        go_roundw
                        case rel =>
                          refine ⟨r.drop (4 + 0), es ++ [e0], vs ++ [.slice Ac 0 cc], some ar, 0, by rw [HDL.out]; subst hrl4; rfl, by rw [HDL.out]; omega, nil_at HBT.out HUW.out (by rw [HDL.out]; omega), ?_, ?_, HPR.out, HBW.out, by rw [List.length_append, HEL.out, HDL.out, List.length_singleton]; omega⟩
                          · rw [List.length_append, HEL.out]; exact HO7.out
                          · have h1 := (HEV.out.kept HUW.out).snoc (e := e0) (A := Ac) (c := cc) (by rw [HE0.out]; exact HCC.out) ?_
                            · rw [HE0.out] at h1; exact h1
                            · exact (BytesAt.own (n := 0) (c := cc) (by have h2 := HCPE.out.own; rw [HE0.out] at h2; exact h2)).kept ((U8Kept.below HV5.out).trans HU7.out)
                        case measure => first | (simp [sliceLen]; done) | (simp [sliceLen]; omega)
                      · by_cases hcn : c = 4 + n0
                        · subst hcn
                          have hrl5 : rl = 4 + n0 := by omega
                          have hcl := cloneB_any e0 (some ⟨ar.block, ar.off + 4, none⟩) n0 n0 wr HE0.out (by omega) (by rw [← HE0'.out]; exact ((HBT.out.off (by decide)).take n0).cells)
                          have HCL := Lib.hid hcl
                          clear hcl
                          go_wp2_with fail
                          refine HCL.out.mono ?_
                          rintro e V ⟨v0, rfl, hcp⟩
                          obtain ⟨Ac, cc, hv0, hcc, -⟩ := own_shape hcp.own
                          rw [HE0.out] at hv0 hcc
                          subst hv0
                          have HCPE := Lib.hid hcp
                          have HCN := Lib.hid (fresh_cells V #[.slice Ac n0 cc] 30)
                          have hb5 : Below V.heap.size V (V.alloc (.cells #[.slice Ac n0 cc] 30)) := (Below.refl _ _).alloc (Nat.le_refl _) _
                          have HV5 := Lib.hid hb5
                          have HB5 := Lib.hid (hcp.below.trans (hb5.mono hcp.below.size))
                          have HO5 := Lib.hid (own_below HO.out HB5.out)
                          have HS5 := Lib.hid (Nat.le_trans HBR.out.size HB5.out.size)
                          have HCC := Lib.hid hcc
                          clear hcp hb5 HCL hcc
                          go_wp2_with (at_builtin; go_must (refine wpList_appk slB rfl _ _ rfl w9.heap.size (.slice Ae el ce) el vs rfl HO5.out (some ⟨V.heap.size, 0, none⟩) 1 1 [Value.slice Ac n0 cc] rfl rfl HCN.out (by intro u hu; simp only [List.mem_singleton] at hu; subst hu; rfl) (by omega) (by omega) HS5.out ?_); intro v7 w7 hown7 hg7 hb7 hat7)
                          have HO7 := Lib.hid hown7
                          have HU7 := Lib.hid (u8_grown hg7 HO5.out)
                          have HBW := Lib.hid ((HBR.out.trans (HB5.out.mono HBR.out.size)).trans hb7)
                          have HUW := Lib.hid ((U8Kept.below HB5.out).trans HU7.out)
                          clear hown7 hg7 hb7 hat7
                          go_roundw
                          case rel =>
                            refine ⟨r.drop (4 + n0), es ++ [e0], vs ++ [.slice Ac n0 cc], some ar, 0, by rw [HDL.out]; subst hrl5; simp, by rw [HDL.out]; omega, nil_at HBT.out HUW.out (by rw [HDL.out]; omega), ?_, ?_, HPR.out, HBW.out, by rw [List.length_append, HEL.out, HDL.out, List.length_singleton]; omega⟩
                            · rw [List.length_append, HEL.out]; exact HO7.out
                            · have h1 := (HEV.out.kept HUW.out).snoc (e := e0) (A := Ac) (c := cc) (by rw [HE0.out]; exact HCC.out) ?_
                              · rw [HE0.out] at h1; exact h1
                              · exact (BytesAt.own (n := n0) (c := cc) (by have h2 := HCPE.out.own; rw [HE0.out] at h2; exact h2)).kept ((U8Kept.below HV5.out).trans HU7.out)
                          case measure => first | (simp [sliceLen]; done) | (simp [sliceLen]; omega)
                        · have hcl := cloneB_any e0 (some ⟨ar.block, ar.off + 4, none⟩) n0 (c - 4) wr HE0.out (by omega) (by rw [← HE0'.out]; exact ((HBT.out.off (by decide)).take n0).cells)
                          have HCL := Lib.hid hcl
                          clear hcl
                          go_wp2_with fail
                          refine HCL.out.mono ?_
                          rintro e V ⟨v0, rfl, hcp⟩
                          obtain ⟨Ac, cc, hv0, hcc, -⟩ := own_shape hcp.own
                          rw [HE0.out] at hv0 hcc
                          subst hv0
                          have HCPE := Lib.hid hcp
                          have HCN := Lib.hid (fresh_cells V #[.slice Ac n0 cc] 30)
                          have hb5 : Below V.heap.size V (V.alloc (.cells #[.slice Ac n0 cc] 30)) := (Below.refl _ _).alloc (Nat.le_refl _) _
                          have HV5 := Lib.hid hb5
                          have HB5 := Lib.hid (hcp.below.trans (hb5.mono hcp.below.size))
                          have HO5 := Lib.hid (own_below HO.out HB5.out)
                          have HS5 := Lib.hid (Nat.le_trans HBR.out.size HB5.out.size)
                          have HCC := Lib.hid hcc
                          clear hcp hb5 HCL hcc
                          go_wp2_with (at_builtin; go_must (refine wpList_appk slB rfl _ _ rfl w9.heap.size (.slice Ae el ce) el vs rfl HO5.out (some ⟨V.heap.size, 0, none⟩) 1 1 [Value.slice Ac n0 cc] rfl rfl HCN.out (by intro u hu; simp only [List.mem_singleton] at hu; subst hu; rfl) (by omega) (by omega) HS5.out ?_); intro v7 w7 hown7 hg7 hb7 hat7)
                          have HO7 := Lib.hid hown7
                          have HU7 := Lib.hid (u8_grown hg7 HO5.out)
                          have HBW := Lib.hid ((HBR.out.trans (HB5.out.mono HBR.out.size)).trans hb7)
                          have HUW := Lib.hid ((U8Kept.below HB5.out).trans HU7.out)
                          clear hown7 hg7 hb7 hat7
                          go_roundw
                          case rel =>
                            refine ⟨r.drop (4 + n0), es ++ [e0], vs ++ [.slice Ac n0 cc], some (ar.add (4 + n0)), (c - (4 + n0)), by rw [HDL.out], by rw [HDL.out]; omega, (HBT.out.drop (4 + n0)).kept HUW.out, ?_, ?_, HPR.out, HBW.out, by rw [List.length_append, HEL.out, HDL.out, List.length_singleton]; omega⟩
                            · rw [List.length_append, HEL.out]; exact HO7.out
                            · have h1 := (HEV.out.kept HUW.out).snoc (e := e0) (A := Ac) (c := cc) (by rw [HE0.out]; exact HCC.out) ?_
                              · rw [HE0.out] at h1; exact h1
                              · exact (BytesAt.own (n := n0) (c := cc) (by have h2 := HCPE.out.own; rw [HE0.out] at h2; exact h2)).kept ((U8Kept.below HV5.out).trans HU7.out)
                          case measure => first | (simp [sliceLen]; done) | (simp [sliceLen]; omega)
                  · have h4i : ¬ ((rl : Int) ≥ 4) := by omega
                    have hshort : parseL r = if r = [] then some [] else none := parseL_short (by rw [HRL.out]; omega)
                    have e3 : wr.cell? ⟨lp, 3, none⟩ = some (.int .i64 (ct : Int)) := by
                      obtain ⟨A', c', hb9, -, -⟩ := HLA.out.at_
                      exact cell_of (j := 3) ((HBR.out.block lp (lt_of_block hb9)).trans hb9) rfl
                    by_cases h0 : rl = 0
                    · have hr0 : r = [] := List.eq_nil_of_length_eq_zero (by rw [HRL.out]; exact h0)
                      have hps : parseL row = some es := by rw [HP.out, hshort, if_pos hr0]; simp
                      have HPS := Lib.hid hps
                      have hdz : decide ((rl : Int) > 0) = false := decide_eq_false (by omega)
                      have hdz2 : decide (0 < rl) = false := decide_eq_false (by omega)
                      clear hshort hps hr0
                      by_cases hcc : el = ct
                      · have HOK := Lib.hid (readL_ok HBD.out (by rw [show (headP p0).long = lg from HLG.out, HRW.out]; exact HPS.out) (by rw [HEL.out, hcc]; exact HCT.out.symm))
                        have hcci : ((el : Int) = (ct : Int)) := by omega
                        go_wp2_with fail
                        refine bodyPost_ret (results_tmp2 rfl _ _ _) rfl ?_
                        rw [HOK.out, show (headP p0).long = lg from HLG.out, HRW.out]
                        refine ⟨HF9.out.and (Fr.below HBR.out), _, vs, rfl, ?_, HEV.out, ?_⟩
                        · have h9 := HO.out
                          rw [hcc] at h9
                          rw [HEL.out, hcc]
                          exact own_to h9 HF9.out.size
                        · rw [HEL.out, hcc]; exact HLA.out.below HBR.out
                      · have HN := Lib.hid (readL_count HBD.out (by rw [show (headP p0).long = lg from HLG.out, HRW.out]; exact HPS.out) (by rw [HEL.out]; exact fun h => hcc (h.trans HCT.out)))
                        have hcci : ¬ ((el : Int) = (ct : Int)) := by omega
                        go_wp2_with fail
                        refine bodyPost_ret (results_tmp2 rfl _ _ _) rfl ?_
                        rw [HN.out]
                        exact ⟨HF9.out.and (Fr.below HBR.out), rfl⟩
                    · have hr0 : ¬ r = [] := fun h => h0 (by rw [← HRL.out, h]; rfl)
                      have hps : parseL row = none := by rw [HP.out, hshort, if_neg hr0]; rfl
                      have HN := Lib.hid (readL_torn HBD.out (by rw [show (headP p0).long = lg from HLG.out, HRW.out]; exact hps))
                      have hdz : decide ((rl : Int) > 0) = true := decide_eq_true (by omega)
                      have hdz2 : decide (0 < rl) = true := decide_eq_true (by omega)
                      clear hshort hps hr0
                      go_wp2_with fail
                      refine bodyPost_ret (results_tmp2 rfl _ _ _) rfl ?_
                      rw [HN.out]
                      exact ⟨HF9.out.and (Fr.below HBR.out), rfl⟩
end Go.Proofs.Ytladknjmoahdoaa
