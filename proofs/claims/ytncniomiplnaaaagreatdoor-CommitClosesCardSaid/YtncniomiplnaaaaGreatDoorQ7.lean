/- The program's reader of terms: a term. · The program's reader of terms: any term. -/
import Derived.Test.YtncniomiplnaaaaGreatDoorQ5
namespace Go.Proofs.YtncniomiplnaaaaGreatDoor
open Go.RowKit

theorem run_equalIn_func_nil (f : FuncId) (b d : Nat) (W : World) : (Op.equalIn (d + 1) 185 (.func (.func f) #[.pointer (some ⟨b, 0, none⟩)] #[]) .nilFunc).run Tryz.prog W = .ok false W := by
  simp [Op.equalIn, run_underlying Tryz.underlying185]
theorem run_equal_func_nil (f : FuncId) (b : Nat) (W : World) : (Op.equal 185 (.func (.func f) #[.pointer (some ⟨b, 0, none⟩)] #[]) .nilFunc).run Tryz.prog W = .ok false W := run_equalIn_func_nil f b 9999 W
theorem run_func_nil (f : FuncId) (b : Nat) (W : World) : (binOp .eql 185 (.func (.func f) #[.pointer (some ⟨b, 0, none⟩)] #[]) .nilFunc).run Tryz.prog W = .ok (.bool false) W := by
  simp [binOp, run_equal_func_nil]
theorem run_equalIn_nil_nil (d : Nat) (W : World) : (Op.equalIn (d + 1) 185 .nilFunc .nilFunc).run Tryz.prog W = .ok true W := by
  simp [Op.equalIn, run_underlying Tryz.underlying185]
theorem run_equal_nil_nil (W : World) : (Op.equal 185 .nilFunc .nilFunc).run Tryz.prog W = .ok true W := run_equalIn_nil_nil 9999 W
theorem run_nil_nil (W : World) : (binOp .eql 185 .nilFunc .nilFunc).run Tryz.prog W = .ok (.bool true) W := by
  simp [binOp, run_equal_nil_nil]
theorem ShapeAt.putO {w : World} {b : Nat} {op n deep : Int} {text : ByteArray} {ks : Value} (h : ShapeAt w b op n text ks deep) (k : Nat) (m : Int) : ShapeAt ((w.drewN k).setCell ⟨b, 0, none⟩ (.int .u8 m)) b m n text ks deep := by
  unfold ShapeAt at h ⊢; rw [set_block _ h k]; rfl
/-- What term tells, by the rest of the term. -/
def TermQ (F : Option Cut) (s : ByteArray) (op : Int) (c : UInt8) (b : Nat) (w : World) (e : Ending) (w' : World) : Prop :=
  match F with
  | some x => if fitsB s.data.toList c x.kids = true then ∃ A cap, e = .returned (.tuple #[shapeV op x.num (textOf s c x) (.slice A (pieces s x.kids).length cap) x.deep, .bool true]) ∧ RdrAt w' b s x.fin ∧ w'.ownsRow 0 24 1 (.slice A (pieces s x.kids).length cap) (pieces s x.kids).length (strs (pieces s x.kids)) ∧ Fr [b] w w'
    else e = .returned (.tuple #[shapeV 0 0 ⟨#[]⟩ (.slice none 0 0) 0, .bool false]) ∧ Fr [b] w w'
  | none => e = .returned (.tuple #[shapeV 0 0 ⟨#[]⟩ (.slice none 0 0) 0, .bool false]) ∧ Fr [b] w w'
theorem termQ_P {s : ByteArray} {room at_ b : Nat} {c : UInt8} {w w' : World} {e : Ending} (hc : s.data.toList[at_]? = some c) (h : TermQ (rdF s.data.toList room at_ c) s c.toNat c b w e w') : TermP s (room + 1) at_ b w e w' := by
  have hb : byte s.data.toList at_ = c := by unfold byte; rw [List.getD_eq_getElem?_getD, hc]; rfl
  unfold TermP
  rw [rd_rdF hc, hb]
  revert h
  cases rdF s.data.toList room at_ c with
  | none => exact fun h => h
  | some x =>
    unfold TermQ
    simp only
    cases fitsB s.data.toList c x.kids with
    | true => exact fun h => h
    | false => exact fun h => h
set_option maxRecDepth 100000 in
set_option maxHeartbeats 8000000 in
theorem term_name (b : Nat) (s : ByteArray) (room at_ : Nat) (c : UInt8) (w : World) (hs : s.size ≤ 1000000) (hroom : room ≤ 1000)
    (HT : ∀ (at_ : Nat) (w : World), RdrAt w b s at_ → at_ ≤ s.size → VarsOk w → Calls Tryz.prog 131 #[.pointer (some ⟨b, 0, none⟩), .int .i64 room] w (TermP s room at_ b w))
    (hr : RdrAt w b s at_) (hat : at_ < s.size) (hv : VarsOk w) (hbc : byte s.data.toList at_ = c) (hc : c = 110) :
    Calls Tryz.prog 131 #[.pointer (some ⟨b, 0, none⟩), .int .i64 ((room + 1 : Nat) : Int)] w (TermQ (rdF s.data.toList room at_ c) s c.toNat c b w) := by
  have hform : formV b c.toNat = metV 141 b := by
    rcases hc with rfl <;> rfl
  have HFC := Lib.hid fun (bx : Nat) (w : World) hr hx hv => name_form b bx s room at_ (c.toNat : Int) c w hs hroom HT hr hx (by omega) hv hc
  have hix := fun W => index_at hat W
  have hfk : ∀ x, rdF s.data.toList room at_ c = some x → _ := fun x h => rdF_kids h (show at_ < s.data.toList.length from hat)
  have HFK := Lib.hid hfk
  rw [hbc] at hix
  obtain ⟨op, hop⟩ : ∃ op : Int, (c.toNat : Int) = op := ⟨_, rfl⟩
  rw [hop] at hform HFC
  simp only [hop] at hix
  have HFM := Lib.hid (form_any b op)
  rw [hform] at HFM
  unfold metV at HFM
  rw [hop]
  obtain ⟨F, hF⟩ : ∃ F, rdF s.data.toList room at_ c = F := ⟨_, rfl⟩
  rw [hF] at HFC HFK ⊢
  obtain ⟨rm, hrm⟩ : ∃ rm : Int, ((room + 1 : Nat) : Int) = rm := ⟨_, rfl⟩
  have g2 : (rm == 0) = false := beq_false_of_ne (by omega)
  rw [hrm] at HFC ⊢
  have HR := Lib.hid hr
  have HV := Lib.hid hv
  have HOP := Lib.hid hop
  have hwr : IntKind.i64.wrap ((at_ : Int) + 1) = ((at_ + 1 : Nat) : Int) := by rw [IntWalk.i64_in _ (by omega)]; omega
  have hba : ∀ o, Below w.heap.size w (w.alloc o) := fun o => (Below.refl _ _).alloc (Nat.le_refl _) o
  have hrA := fun o => hr.fr (Fr.below (F := []) (hba o)) (by simp)
  have d0 := fun o => (hrA o).cells.1
  have d1 := fun o => (hrA o).cells.2.1
  have hbl : b < w.heap.size := lt_of_block hr
  have g1 : ((at_ : Int) == (s.size : Int)) = false := beq_false_of_ne (by omega)
  have gi1 : (0 : Int) ≤ (at_ : Int) := by omega
  have gi2 : (at_ : Int) < (s.size : Int) := by omega
  clear hba hrA hr hv HT hform hbc hc hfk hF hrm hop
  go_enter Tryz.func131, Tryz.ntmps131
  go_wp2_with fail
  go_big_quiet (fail)
  go_wp2_with fail
  have hW1 : ∃ W1, ((w.alloc (.cells #[.int .u8 0, .int .i64 0, .string ⟨#[]⟩, .slice none 0 0, .int .i64 0] 162)).drewN nq).alloc (.cells #[.int .u8 0, .int .i64 0, .string ⟨#[]⟩, .slice none 0 0, .int .i64 1] 162) = W1 := ⟨_, rfl⟩
  obtain ⟨W1, hW1⟩ := hW1
  have hf1 : Fr [b] w W1 := by
    rw [← hW1]
    exact Fr.below (((below_drewN ((Below.refl _ _).alloc (Nat.le_refl _) _) nq)).alloc (by simp) _)
  have hr1 : RdrAt W1 b s at_ := by
    refine RdrAt.fr HR.out (F := []) ?_ (by simp)
    rw [← hW1]
    exact Fr.below (((below_drewN ((Below.refl _ _).alloc (Nat.le_refl _) _) nq)).alloc (by simp) _)
  have hx1 : ShapeAt W1 (w.heap.size + 1) 0 0 ⟨#[]⟩ (.slice none 0 0) 1 := by
    have h := Go.heap_alloc_new ((w.alloc (.cells #[.int .u8 0, .int .i64 0, .string ⟨#[]⟩, .slice none 0 0, .int .i64 0] 162)).drewN nq) (.cells #[.int .u8 0, .int .i64 0, .string ⟨#[]⟩, .slice none 0 0, .int .i64 1] 162)
    rw [hW1, show ((w.alloc (.cells #[.int .u8 0, .int .i64 0, .string ⟨#[]⟩, .slice none 0 0, .int .i64 0] 162)).drewN nq).heap.size = w.heap.size + 1 by simp] at h
    exact h
  have hz1 : ShapeAt W1 w.heap.size 0 0 ⟨#[]⟩ (.slice none 0 0) 0 := by
    have h := Go.heap_alloc_new w (.cells #[.int .u8 0, .int .i64 0, .string ⟨#[]⟩, .slice none 0 0, .int .i64 0] 162)
    have h2 := Go.heap_alloc_old ((w.alloc (.cells #[.int .u8 0, .int .i64 0, .string ⟨#[]⟩, .slice none 0 0, .int .i64 0] 162)).drewN nq) (.cells #[.int .u8 0, .int .i64 0, .string ⟨#[]⟩, .slice none 0 0, .int .i64 1] 162) (show w.heap.size < ((w.alloc (.cells #[.int .u8 0, .int .i64 0, .string ⟨#[]⟩, .slice none 0 0, .int .i64 0] 162)).drewN nq).heap.size by simp)
    rw [hW1] at h2
    exact h2.trans h
  rw [hW1]
  have HF1 := Lib.hid hf1
  have HR1 := Lib.hid hr1
  have HX1 := Lib.hid hx1
  have HZ1 := Lib.hid hz1
  clear hW1 hf1 hr1 hx1 hz1 d0 d1
  obtain ⟨d0, d1, -⟩ := HR1.out.cells
  go_still_tail 11, (by kernel_rfl)
  change wpList _ _ _ _ _ W1.drew
  have HF2 := Lib.hid (show Fr [b] w W1.drew from HF1.out.drewN 1)
  have HR2 := Lib.hid (show RdrAt W1.drew b s at_ from HR1.out)
  have HX2 := Lib.hid (show ShapeAt W1.drew (w.heap.size + 1) 0 0 ⟨#[]⟩ (.slice none 0 0) 1 from HX1.out)
  have HZ2 := Lib.hid (show ShapeAt W1.drew w.heap.size 0 0 ⟨#[]⟩ (.slice none 0 0) 0 from HZ1.out)
  clear HF1 HR1 HX1 HZ1 d0 d1
  generalize W1.drew = W2 at HF2 HR2 HX2 HZ2 ⊢
  obtain ⟨d0, d1, df⟩ := HR2.out.cells
  obtain ⟨c0, c1, c2, c3, c4, cf⟩ := HX2.out.cells
  have f0 := cf 0
  have f1 := df 1
  have hbx : w.heap.size + 1 ≠ b := by omega
  have hp1 : Fr [w.heap.size + 1] W2 (W2.setCell ⟨w.heap.size + 1, 0, none⟩ (.int .u8 op)) := Fr.put0 W2 _ 0 _ (List.mem_singleton.2 rfl)
  have hp2 : Fr [b] (W2.setCell ⟨w.heap.size + 1, 0, none⟩ (.int .u8 op)) ((W2.setCell ⟨w.heap.size + 1, 0, none⟩ (.int .u8 op)).setCell ⟨b, 1, none⟩ (.int .i64 ((at_ : Int) + 1))) := Fr.put0 _ _ 1 _ (List.mem_singleton.2 rfl)
  have hx3 : ShapeAt (W2.setCell ⟨w.heap.size + 1, 0, none⟩ (.int .u8 op)) (w.heap.size + 1) op 0 ⟨#[]⟩ (.slice none 0 0) 1 := HX2.out.putO 0 op
  have hr3 := HR2.out.fr hp1 (by simpa using fun e => hbx e.symm)
  have hz3 := HZ2.out.fr hp1 (by simp)
  have hf3 := HF2.out.trans hp1 (fun i hi hlt => absurd (show i = w.heap.size + 1 by simpa using hi) (by omega))
  have HR4 := Lib.hid (show RdrAt ((W2.setCell ⟨w.heap.size + 1, 0, none⟩ (.int .u8 op)).setCell ⟨b, 1, none⟩ (.int .i64 ((at_ : Int) + 1))) b s (at_ + 1) from hr3.put 0 (at_ + 1))
  have HX4 := Lib.hid (hx3.fr hp2 (by simpa using hbx))
  have HZ4 := Lib.hid (hz3.fr hp2 (by simp; omega))
  have HF4 := Lib.hid (hf3.trans hp2 (fun i hi _ => hi))
  have HV4 := Lib.hid (HV.out.fr HF4.out HR.out.notVar)
  have q0 := hx3.cells.1
  clear hp1 hp2 hx3 hr3 hz3 hf3 cf df HX2 HR2 HZ2 HF2
  have hnf := run_func_nil
  go_wp2_with fail
  refine (HFM.out _).mono ?_
  rintro e w' ⟨rfl, rfl⟩
  go_wp2_with fail
  generalize hW4 : (W2.setCell ⟨w.heap.size + 1, 0, none⟩ (.int .u8 op)).setCell ⟨b, 1, none⟩ (.int .i64 ((at_ : Int) + 1)) = W4 at HR4 HX4 HZ4 HF4 HV4 ⊢
  clear hW4 q0 c0 c1 c2 c3 c4 d0 d1 f0 f1
  refine (HFC.out (w.heap.size + 1) W4 HR4.out HX4.out HV4.out).mono ?_
  rintro e W5 hP
  cases F with
  | none =>
    obtain ⟨rfl, hf5⟩ := hP
    have hz5 := HZ4.out.fr hf5 (by simp; omega)
    have hF5 := HF4.out.trans hf5 (fun i hi hlt => by
      rcases List.mem_cons.1 hi with rfl | hi
      · exact List.mem_cons_self ..
      · exact absurd (show i = w.heap.size + 1 by simpa using hi) (by omega))
    obtain ⟨z0, z1, z2, z3, z4, zf⟩ := hz5.cells
    have zf0 := zf 0
    have zf1 := zf 1
    have zf2 := zf 2
    have zf3 := zf 3
    have zf4 := zf 4
    have HZ5 := Lib.hid hz5
    have HF5 := Lib.hid hF5
    clear hf5 hz5 hF5 zf
    have hA := put5_at (show W5.heap[w.heap.size]? = some (.cells #[.int .u8 0, .int .i64 0, .string ⟨#[]⟩, .slice none 0 0, .int .i64 0] 162 (0, 0)) from HZ5.out) (.int .u8 0) (.int .i64 0) (.string ⟨#[]⟩) (.slice none 0 0) (.int .i64 0)
    have hF : Fr [b] w (put5 W5 w.heap.size (.int .u8 0) (.int .i64 0) (.string ⟨#[]⟩) (.slice none 0 0) (.int .i64 0)) := HF5.out.trans (put5_fr _ _ _ _ _ _ _ (List.mem_singleton.2 rfl)) (fun i hi hlt => absurd (show i = w.heap.size by simpa using hi) (by omega))
    have HA := Lib.hid hA
    have HF := Lib.hid hF
    clear hA hF
    go_wp2_with fail
    change bodyPost _ _ _ _ _ (put5 W5 w.heap.size (.int .u8 0) (.int .i64 0) (.string ⟨#[]⟩) (.slice none 0 0) (.int .i64 0))
    generalize put5 W5 w.heap.size (.int .u8 0) (.int .i64 0) (.string ⟨#[]⟩) (.slice none 0 0) (.int .i64 0) = Wf at HA HF ⊢
    obtain ⟨r0, r1, r2, r3, r4, -⟩ := ShapeAt.cells (show ShapeAt Wf w.heap.size 0 0 ⟨#[]⟩ (.slice none 0 0) 0 from HA.out)
    exact bodyPost_ret (v := .tuple #[shapeV 0 0 ⟨#[]⟩ (.slice none 0 0) 0, .bool false]) (by simp [results, Tryz.results131, go_sem, r0, r1, r2, r3, r4, shapeV]) rfl ⟨rfl, HF.out⟩
  | some x =>
    obtain ⟨rfl, hr5, ⟨A, cap, hx5, hcl⟩, hf5⟩ := hP
    have hz5 := HZ4.out.fr hf5 (by simp; omega)
    have hF5 := HF4.out.trans hf5 (fun i hi hlt => by
      rcases List.mem_cons.1 hi with rfl | hi
      · exact List.mem_cons_self ..
      · exact absurd (show i = w.heap.size + 1 by simpa using hi) (by omega))
    obtain ⟨k1, k2, k3, k4, k5, k6, k7, k8⟩ := HFK.out x rfl
    have hfit := fits_any s c op HOP.out x.kids x.num x.deep (textOf s c x) A cap W5 (cells_of_own hcl) hs (by rw [pieces_len]; omega) (fun i hi => by rw [pieces_len] at hi; exact k6 i hi) (fun h => by rw [pieces_len]; exact k7 h) (fun h => by rw [pieces_len]; exact k8 h)
    unfold shapeV at hfit
    have HFI := Lib.hid hfit
    obtain ⟨c0, c1, c2, c3, c4, -⟩ := hx5.cells
    have HR5 := Lib.hid hr5
    have HX5 := Lib.hid hx5
    have HCL := Lib.hid hcl
    have HZ5 := Lib.hid hz5
    have HF5 := Lib.hid hF5
    clear hr5 hx5 hcl hz5 hF5 hf5 hfit k1 k2 k3 k4 k5 k6 k7 k8
    go_wp2_with fail
    refine HFI.out.mono ?_
    rintro e W6 ⟨rfl, hb6⟩
    have hz6 := HZ5.out.fr (Fr.below (F := []) hb6) (by simp)
    have hF6 := HF5.out.trans (Fr.below (F := []) hb6) (fun i hi _ => by cases hi)
    have hx6 := HX5.out.fr (Fr.below (F := []) hb6) (by simp)
    have hr6 := HR5.out.fr (Fr.below (F := []) hb6) (by simp)
    have hc6 := own_below HCL.out hb6
    obtain ⟨z0, z1, z2, z3, z4, zf⟩ := hz6.cells
    have zf0 := zf 0
    have zf1 := zf 1
    have zf2 := zf 2
    have zf3 := zf 3
    have zf4 := zf 4
    obtain ⟨x0, x1, x2, x3, x4, -⟩ := hx6.cells
    have HZ6 := Lib.hid hz6
    have HF6 := Lib.hid hF6
    have HR6 := Lib.hid hr6
    have HC6 := Lib.hid hc6
    clear hz6 hF6 hx6 hr6 hc6 zf hb6 c0 c1 c2 c3 c4
    cases hq : fitsB s.data.toList c x.kids with
    | false =>
      have HQ := Lib.hid hq
      clear hq
      have hA := put5_at (show W6.heap[w.heap.size]? = some (.cells #[.int .u8 0, .int .i64 0, .string ⟨#[]⟩, .slice none 0 0, .int .i64 0] 162 (0, 0)) from HZ6.out) (.int .u8 0) (.int .i64 0) (.string ⟨#[]⟩) (.slice none 0 0) (.int .i64 0)
      have hF : Fr [b] w (put5 W6 w.heap.size (.int .u8 0) (.int .i64 0) (.string ⟨#[]⟩) (.slice none 0 0) (.int .i64 0)) := HF6.out.trans (put5_fr _ _ _ _ _ _ _ (List.mem_singleton.2 rfl)) (fun i hi hlt => absurd (show i = w.heap.size by simpa using hi) (by omega))
      have HA := Lib.hid hA
      have HF := Lib.hid hF
      clear hA hF
      go_wp2_with fail
      change bodyPost _ _ _ _ _ (put5 W6 w.heap.size (.int .u8 0) (.int .i64 0) (.string ⟨#[]⟩) (.slice none 0 0) (.int .i64 0))
      generalize put5 W6 w.heap.size (.int .u8 0) (.int .i64 0) (.string ⟨#[]⟩) (.slice none 0 0) (.int .i64 0) = Wf at HA HF ⊢
      obtain ⟨r0, r1, r2, r3, r4, -⟩ := ShapeAt.cells (show ShapeAt Wf w.heap.size 0 0 ⟨#[]⟩ (.slice none 0 0) 0 from HA.out)
      exact bodyPost_ret (v := .tuple #[shapeV 0 0 ⟨#[]⟩ (.slice none 0 0) 0, .bool false]) (by simp [results, Tryz.results131, go_sem, r0, r1, r2, r3, r4, shapeV]) rfl (by unfold TermQ; simp only; rw [if_neg (by rw [HQ.out]; decide)]; exact ⟨trivial, HF.out⟩)
    | true =>
      have HQ := Lib.hid hq
      clear hq
      have hA := put5_at (show W6.heap[w.heap.size]? = some (.cells #[.int .u8 0, .int .i64 0, .string ⟨#[]⟩, .slice none 0 0, .int .i64 0] 162 (0, 0)) from HZ6.out) (.int .u8 op) (.int .i64 x.num) (.string (textOf s c x)) (.slice A (pieces s x.kids).length cap) (.int .i64 x.deep)
      have hp := put5_fr W6 w.heap.size (.int .u8 op) (.int .i64 x.num) (.string (textOf s c x)) (.slice A (pieces s x.kids).length cap) (.int .i64 x.deep) (F := [w.heap.size]) (by simp)
      have hF := HF6.out.trans hp (fun i hi hlt => absurd (show i = w.heap.size by simpa using hi) (by omega))
      have hrF := HR6.out.fr hp (by simp; omega)
      have hcF := own_fr HC6.out hp (fun g hg => by simpa using own_ne_shape HC6.out (by decide) HZ6.out g hg)
      have HA := Lib.hid hA
      have HF := Lib.hid hF
      have HRF := Lib.hid hrF
      have HCF := Lib.hid hcF
      clear hA hF hp hrF hcF
      go_wp2_with fail
      change bodyPost _ _ _ _ _ (put5 W6 w.heap.size (.int .u8 op) (.int .i64 x.num) (.string (textOf s c x)) (.slice A (pieces s x.kids).length cap) (.int .i64 x.deep))
      generalize put5 W6 w.heap.size (.int .u8 op) (.int .i64 x.num) (.string (textOf s c x)) (.slice A (pieces s x.kids).length cap) (.int .i64 x.deep) = Wf at HA HF HRF HCF ⊢
      obtain ⟨r0, r1, r2, r3, r4, -⟩ := ShapeAt.cells (show ShapeAt Wf w.heap.size op x.num (textOf s c x) (.slice A (pieces s x.kids).length cap) x.deep from HA.out)
      refine bodyPost_ret (v := .tuple #[shapeV op x.num (textOf s c x) (.slice A (pieces s x.kids).length cap) x.deep, .bool true]) (by simp [results, Tryz.results131, go_sem, r0, r1, r2, r3, r4, shapeV]) rfl ?_
      unfold TermQ
      simp only
      rw [if_pos HQ.out]
      exact ⟨A, cap, rfl, HRF.out, HCF.out, HF.out⟩
set_option maxRecDepth 100000 in
set_option maxHeartbeats 8000000 in
theorem term_text (b : Nat) (s : ByteArray) (room at_ : Nat) (c : UInt8) (w : World) (hs : s.size ≤ 1000000) (hroom : room ≤ 1000)
    (HT : ∀ (at_ : Nat) (w : World), RdrAt w b s at_ → at_ ≤ s.size → VarsOk w → Calls Tryz.prog 131 #[.pointer (some ⟨b, 0, none⟩), .int .i64 room] w (TermP s room at_ b w))
    (hr : RdrAt w b s at_) (hat : at_ < s.size) (hv : VarsOk w) (hbc : byte s.data.toList at_ = c) (hc : c = 116) :
    Calls Tryz.prog 131 #[.pointer (some ⟨b, 0, none⟩), .int .i64 ((room + 1 : Nat) : Int)] w (TermQ (rdF s.data.toList room at_ c) s c.toNat c b w) := by
  have hform : formV b c.toNat = metV 142 b := by
    rcases hc with rfl <;> rfl
  have HFC := Lib.hid fun (bx : Nat) (w : World) hr hx hv => text_form b bx s room at_ (c.toNat : Int) c w hs hroom HT hr hx (by omega) hv hc
  have hix := fun W => index_at hat W
  have hfk : ∀ x, rdF s.data.toList room at_ c = some x → _ := fun x h => rdF_kids h (show at_ < s.data.toList.length from hat)
  have HFK := Lib.hid hfk
  rw [hbc] at hix
  obtain ⟨op, hop⟩ : ∃ op : Int, (c.toNat : Int) = op := ⟨_, rfl⟩
  rw [hop] at hform HFC
  simp only [hop] at hix
  have HFM := Lib.hid (form_any b op)
  rw [hform] at HFM
  unfold metV at HFM
  rw [hop]
  obtain ⟨F, hF⟩ : ∃ F, rdF s.data.toList room at_ c = F := ⟨_, rfl⟩
  rw [hF] at HFC HFK ⊢
  obtain ⟨rm, hrm⟩ : ∃ rm : Int, ((room + 1 : Nat) : Int) = rm := ⟨_, rfl⟩
  have g2 : (rm == 0) = false := beq_false_of_ne (by omega)
  rw [hrm] at HFC ⊢
  have HR := Lib.hid hr
  have HV := Lib.hid hv
  have HOP := Lib.hid hop
  have hwr : IntKind.i64.wrap ((at_ : Int) + 1) = ((at_ + 1 : Nat) : Int) := by rw [IntWalk.i64_in _ (by omega)]; omega
  have hba : ∀ o, Below w.heap.size w (w.alloc o) := fun o => (Below.refl _ _).alloc (Nat.le_refl _) o
  have hrA := fun o => hr.fr (Fr.below (F := []) (hba o)) (by simp)
  have d0 := fun o => (hrA o).cells.1
  have d1 := fun o => (hrA o).cells.2.1
  have hbl : b < w.heap.size := lt_of_block hr
  have g1 : ((at_ : Int) == (s.size : Int)) = false := beq_false_of_ne (by omega)
  have gi1 : (0 : Int) ≤ (at_ : Int) := by omega
  have gi2 : (at_ : Int) < (s.size : Int) := by omega
  clear hba hrA hr hv HT hform hbc hc hfk hF hrm hop
  go_enter Tryz.func131, Tryz.ntmps131
  go_wp2_with fail
  go_big_quiet (fail)
  go_wp2_with fail
  have hW1 : ∃ W1, ((w.alloc (.cells #[.int .u8 0, .int .i64 0, .string ⟨#[]⟩, .slice none 0 0, .int .i64 0] 162)).drewN nq).alloc (.cells #[.int .u8 0, .int .i64 0, .string ⟨#[]⟩, .slice none 0 0, .int .i64 1] 162) = W1 := ⟨_, rfl⟩
  obtain ⟨W1, hW1⟩ := hW1
  have hf1 : Fr [b] w W1 := by
    rw [← hW1]
    exact Fr.below (((below_drewN ((Below.refl _ _).alloc (Nat.le_refl _) _) nq)).alloc (by simp) _)
  have hr1 : RdrAt W1 b s at_ := by
    refine RdrAt.fr HR.out (F := []) ?_ (by simp)
    rw [← hW1]
    exact Fr.below (((below_drewN ((Below.refl _ _).alloc (Nat.le_refl _) _) nq)).alloc (by simp) _)
  have hx1 : ShapeAt W1 (w.heap.size + 1) 0 0 ⟨#[]⟩ (.slice none 0 0) 1 := by
    have h := Go.heap_alloc_new ((w.alloc (.cells #[.int .u8 0, .int .i64 0, .string ⟨#[]⟩, .slice none 0 0, .int .i64 0] 162)).drewN nq) (.cells #[.int .u8 0, .int .i64 0, .string ⟨#[]⟩, .slice none 0 0, .int .i64 1] 162)
    rw [hW1, show ((w.alloc (.cells #[.int .u8 0, .int .i64 0, .string ⟨#[]⟩, .slice none 0 0, .int .i64 0] 162)).drewN nq).heap.size = w.heap.size + 1 by simp] at h
    exact h
  have hz1 : ShapeAt W1 w.heap.size 0 0 ⟨#[]⟩ (.slice none 0 0) 0 := by
    have h := Go.heap_alloc_new w (.cells #[.int .u8 0, .int .i64 0, .string ⟨#[]⟩, .slice none 0 0, .int .i64 0] 162)
    have h2 := Go.heap_alloc_old ((w.alloc (.cells #[.int .u8 0, .int .i64 0, .string ⟨#[]⟩, .slice none 0 0, .int .i64 0] 162)).drewN nq) (.cells #[.int .u8 0, .int .i64 0, .string ⟨#[]⟩, .slice none 0 0, .int .i64 1] 162) (show w.heap.size < ((w.alloc (.cells #[.int .u8 0, .int .i64 0, .string ⟨#[]⟩, .slice none 0 0, .int .i64 0] 162)).drewN nq).heap.size by simp)
    rw [hW1] at h2
    exact h2.trans h
  rw [hW1]
  have HF1 := Lib.hid hf1
  have HR1 := Lib.hid hr1
  have HX1 := Lib.hid hx1
  have HZ1 := Lib.hid hz1
  clear hW1 hf1 hr1 hx1 hz1 d0 d1
  obtain ⟨d0, d1, -⟩ := HR1.out.cells
  go_still_tail 11, (by kernel_rfl)
  change wpList _ _ _ _ _ W1.drew
  have HF2 := Lib.hid (show Fr [b] w W1.drew from HF1.out.drewN 1)
  have HR2 := Lib.hid (show RdrAt W1.drew b s at_ from HR1.out)
  have HX2 := Lib.hid (show ShapeAt W1.drew (w.heap.size + 1) 0 0 ⟨#[]⟩ (.slice none 0 0) 1 from HX1.out)
  have HZ2 := Lib.hid (show ShapeAt W1.drew w.heap.size 0 0 ⟨#[]⟩ (.slice none 0 0) 0 from HZ1.out)
  clear HF1 HR1 HX1 HZ1 d0 d1
  generalize W1.drew = W2 at HF2 HR2 HX2 HZ2 ⊢
  obtain ⟨d0, d1, df⟩ := HR2.out.cells
  obtain ⟨c0, c1, c2, c3, c4, cf⟩ := HX2.out.cells
  have f0 := cf 0
  have f1 := df 1
  have hbx : w.heap.size + 1 ≠ b := by omega
  have hp1 : Fr [w.heap.size + 1] W2 (W2.setCell ⟨w.heap.size + 1, 0, none⟩ (.int .u8 op)) := Fr.put0 W2 _ 0 _ (List.mem_singleton.2 rfl)
  have hp2 : Fr [b] (W2.setCell ⟨w.heap.size + 1, 0, none⟩ (.int .u8 op)) ((W2.setCell ⟨w.heap.size + 1, 0, none⟩ (.int .u8 op)).setCell ⟨b, 1, none⟩ (.int .i64 ((at_ : Int) + 1))) := Fr.put0 _ _ 1 _ (List.mem_singleton.2 rfl)
  have hx3 : ShapeAt (W2.setCell ⟨w.heap.size + 1, 0, none⟩ (.int .u8 op)) (w.heap.size + 1) op 0 ⟨#[]⟩ (.slice none 0 0) 1 := HX2.out.putO 0 op
  have hr3 := HR2.out.fr hp1 (by simpa using fun e => hbx e.symm)
  have hz3 := HZ2.out.fr hp1 (by simp)
  have hf3 := HF2.out.trans hp1 (fun i hi hlt => absurd (show i = w.heap.size + 1 by simpa using hi) (by omega))
  have HR4 := Lib.hid (show RdrAt ((W2.setCell ⟨w.heap.size + 1, 0, none⟩ (.int .u8 op)).setCell ⟨b, 1, none⟩ (.int .i64 ((at_ : Int) + 1))) b s (at_ + 1) from hr3.put 0 (at_ + 1))
  have HX4 := Lib.hid (hx3.fr hp2 (by simpa using hbx))
  have HZ4 := Lib.hid (hz3.fr hp2 (by simp; omega))
  have HF4 := Lib.hid (hf3.trans hp2 (fun i hi _ => hi))
  have HV4 := Lib.hid (HV.out.fr HF4.out HR.out.notVar)
  have q0 := hx3.cells.1
  clear hp1 hp2 hx3 hr3 hz3 hf3 cf df HX2 HR2 HZ2 HF2
  have hnf := run_func_nil
  go_wp2_with fail
  refine (HFM.out _).mono ?_
  rintro e w' ⟨rfl, rfl⟩
  go_wp2_with fail
  generalize hW4 : (W2.setCell ⟨w.heap.size + 1, 0, none⟩ (.int .u8 op)).setCell ⟨b, 1, none⟩ (.int .i64 ((at_ : Int) + 1)) = W4 at HR4 HX4 HZ4 HF4 HV4 ⊢
  clear hW4 q0 c0 c1 c2 c3 c4 d0 d1 f0 f1
  refine (HFC.out (w.heap.size + 1) W4 HR4.out HX4.out HV4.out).mono ?_
  rintro e W5 hP
  cases F with
  | none =>
    obtain ⟨rfl, hf5⟩ := hP
    have hz5 := HZ4.out.fr hf5 (by simp; omega)
    have hF5 := HF4.out.trans hf5 (fun i hi hlt => by
      rcases List.mem_cons.1 hi with rfl | hi
      · exact List.mem_cons_self ..
      · exact absurd (show i = w.heap.size + 1 by simpa using hi) (by omega))
    obtain ⟨z0, z1, z2, z3, z4, zf⟩ := hz5.cells
    have zf0 := zf 0
    have zf1 := zf 1
    have zf2 := zf 2
    have zf3 := zf 3
    have zf4 := zf 4
    have HZ5 := Lib.hid hz5
    have HF5 := Lib.hid hF5
    clear hf5 hz5 hF5 zf
    have hA := put5_at (show W5.heap[w.heap.size]? = some (.cells #[.int .u8 0, .int .i64 0, .string ⟨#[]⟩, .slice none 0 0, .int .i64 0] 162 (0, 0)) from HZ5.out) (.int .u8 0) (.int .i64 0) (.string ⟨#[]⟩) (.slice none 0 0) (.int .i64 0)
    have hF : Fr [b] w (put5 W5 w.heap.size (.int .u8 0) (.int .i64 0) (.string ⟨#[]⟩) (.slice none 0 0) (.int .i64 0)) := HF5.out.trans (put5_fr _ _ _ _ _ _ _ (List.mem_singleton.2 rfl)) (fun i hi hlt => absurd (show i = w.heap.size by simpa using hi) (by omega))
    have HA := Lib.hid hA
    have HF := Lib.hid hF
    clear hA hF
    go_wp2_with fail
    change bodyPost _ _ _ _ _ (put5 W5 w.heap.size (.int .u8 0) (.int .i64 0) (.string ⟨#[]⟩) (.slice none 0 0) (.int .i64 0))
    generalize put5 W5 w.heap.size (.int .u8 0) (.int .i64 0) (.string ⟨#[]⟩) (.slice none 0 0) (.int .i64 0) = Wf at HA HF ⊢
    obtain ⟨r0, r1, r2, r3, r4, -⟩ := ShapeAt.cells (show ShapeAt Wf w.heap.size 0 0 ⟨#[]⟩ (.slice none 0 0) 0 from HA.out)
    exact bodyPost_ret (v := .tuple #[shapeV 0 0 ⟨#[]⟩ (.slice none 0 0) 0, .bool false]) (by simp [results, Tryz.results131, go_sem, r0, r1, r2, r3, r4, shapeV]) rfl ⟨rfl, HF.out⟩
  | some x =>
    obtain ⟨rfl, hr5, ⟨A, cap, hx5, hcl⟩, hf5⟩ := hP
    have hz5 := HZ4.out.fr hf5 (by simp; omega)
    have hF5 := HF4.out.trans hf5 (fun i hi hlt => by
      rcases List.mem_cons.1 hi with rfl | hi
      · exact List.mem_cons_self ..
      · exact absurd (show i = w.heap.size + 1 by simpa using hi) (by omega))
    obtain ⟨k1, k2, k3, k4, k5, k6, k7, k8⟩ := HFK.out x rfl
    have hfit := fits_any s c op HOP.out x.kids x.num x.deep (textOf s c x) A cap W5 (cells_of_own hcl) hs (by rw [pieces_len]; omega) (fun i hi => by rw [pieces_len] at hi; exact k6 i hi) (fun h => by rw [pieces_len]; exact k7 h) (fun h => by rw [pieces_len]; exact k8 h)
    unfold shapeV at hfit
    have HFI := Lib.hid hfit
    obtain ⟨c0, c1, c2, c3, c4, -⟩ := hx5.cells
    have HR5 := Lib.hid hr5
    have HX5 := Lib.hid hx5
    have HCL := Lib.hid hcl
    have HZ5 := Lib.hid hz5
    have HF5 := Lib.hid hF5
    clear hr5 hx5 hcl hz5 hF5 hf5 hfit k1 k2 k3 k4 k5 k6 k7 k8
    go_wp2_with fail
    refine HFI.out.mono ?_
    rintro e W6 ⟨rfl, hb6⟩
    have hz6 := HZ5.out.fr (Fr.below (F := []) hb6) (by simp)
    have hF6 := HF5.out.trans (Fr.below (F := []) hb6) (fun i hi _ => by cases hi)
    have hx6 := HX5.out.fr (Fr.below (F := []) hb6) (by simp)
    have hr6 := HR5.out.fr (Fr.below (F := []) hb6) (by simp)
    have hc6 := own_below HCL.out hb6
    obtain ⟨z0, z1, z2, z3, z4, zf⟩ := hz6.cells
    have zf0 := zf 0
    have zf1 := zf 1
    have zf2 := zf 2
    have zf3 := zf 3
    have zf4 := zf 4
    obtain ⟨x0, x1, x2, x3, x4, -⟩ := hx6.cells
    have HZ6 := Lib.hid hz6
    have HF6 := Lib.hid hF6
    have HR6 := Lib.hid hr6
    have HC6 := Lib.hid hc6
    clear hz6 hF6 hx6 hr6 hc6 zf hb6 c0 c1 c2 c3 c4
    cases hq : fitsB s.data.toList c x.kids with
    | false =>
      have HQ := Lib.hid hq
      clear hq
      have hA := put5_at (show W6.heap[w.heap.size]? = some (.cells #[.int .u8 0, .int .i64 0, .string ⟨#[]⟩, .slice none 0 0, .int .i64 0] 162 (0, 0)) from HZ6.out) (.int .u8 0) (.int .i64 0) (.string ⟨#[]⟩) (.slice none 0 0) (.int .i64 0)
      have hF : Fr [b] w (put5 W6 w.heap.size (.int .u8 0) (.int .i64 0) (.string ⟨#[]⟩) (.slice none 0 0) (.int .i64 0)) := HF6.out.trans (put5_fr _ _ _ _ _ _ _ (List.mem_singleton.2 rfl)) (fun i hi hlt => absurd (show i = w.heap.size by simpa using hi) (by omega))
      have HA := Lib.hid hA
      have HF := Lib.hid hF
      clear hA hF
      go_wp2_with fail
      change bodyPost _ _ _ _ _ (put5 W6 w.heap.size (.int .u8 0) (.int .i64 0) (.string ⟨#[]⟩) (.slice none 0 0) (.int .i64 0))
      generalize put5 W6 w.heap.size (.int .u8 0) (.int .i64 0) (.string ⟨#[]⟩) (.slice none 0 0) (.int .i64 0) = Wf at HA HF ⊢
      obtain ⟨r0, r1, r2, r3, r4, -⟩ := ShapeAt.cells (show ShapeAt Wf w.heap.size 0 0 ⟨#[]⟩ (.slice none 0 0) 0 from HA.out)
      exact bodyPost_ret (v := .tuple #[shapeV 0 0 ⟨#[]⟩ (.slice none 0 0) 0, .bool false]) (by simp [results, Tryz.results131, go_sem, r0, r1, r2, r3, r4, shapeV]) rfl (by unfold TermQ; simp only; rw [if_neg (by rw [HQ.out]; decide)]; exact ⟨trivial, HF.out⟩)
    | true =>
      have HQ := Lib.hid hq
      clear hq
      have hA := put5_at (show W6.heap[w.heap.size]? = some (.cells #[.int .u8 0, .int .i64 0, .string ⟨#[]⟩, .slice none 0 0, .int .i64 0] 162 (0, 0)) from HZ6.out) (.int .u8 op) (.int .i64 x.num) (.string (textOf s c x)) (.slice A (pieces s x.kids).length cap) (.int .i64 x.deep)
      have hp := put5_fr W6 w.heap.size (.int .u8 op) (.int .i64 x.num) (.string (textOf s c x)) (.slice A (pieces s x.kids).length cap) (.int .i64 x.deep) (F := [w.heap.size]) (by simp)
      have hF := HF6.out.trans hp (fun i hi hlt => absurd (show i = w.heap.size by simpa using hi) (by omega))
      have hrF := HR6.out.fr hp (by simp; omega)
      have hcF := own_fr HC6.out hp (fun g hg => by simpa using own_ne_shape HC6.out (by decide) HZ6.out g hg)
      have HA := Lib.hid hA
      have HF := Lib.hid hF
      have HRF := Lib.hid hrF
      have HCF := Lib.hid hcF
      clear hA hF hp hrF hcF
      go_wp2_with fail
      change bodyPost _ _ _ _ _ (put5 W6 w.heap.size (.int .u8 op) (.int .i64 x.num) (.string (textOf s c x)) (.slice A (pieces s x.kids).length cap) (.int .i64 x.deep))
      generalize put5 W6 w.heap.size (.int .u8 op) (.int .i64 x.num) (.string (textOf s c x)) (.slice A (pieces s x.kids).length cap) (.int .i64 x.deep) = Wf at HA HF HRF HCF ⊢
      obtain ⟨r0, r1, r2, r3, r4, -⟩ := ShapeAt.cells (show ShapeAt Wf w.heap.size op x.num (textOf s c x) (.slice A (pieces s x.kids).length cap) x.deep from HA.out)
      refine bodyPost_ret (v := .tuple #[shapeV op x.num (textOf s c x) (.slice A (pieces s x.kids).length cap) x.deep, .bool true]) (by simp [results, Tryz.results131, go_sem, r0, r1, r2, r3, r4, shapeV]) rfl ?_
      unfold TermQ
      simp only
      rw [if_pos HQ.out]
      exact ⟨A, cap, rfl, HRF.out, HCF.out, HF.out⟩
set_option maxRecDepth 100000 in
set_option maxHeartbeats 8000000 in
theorem term_tuple (b : Nat) (s : ByteArray) (room at_ : Nat) (c : UInt8) (w : World) (hs : s.size ≤ 1000000) (hroom : room ≤ 1000)
    (HT : ∀ (at_ : Nat) (w : World), RdrAt w b s at_ → at_ ≤ s.size → VarsOk w → Calls Tryz.prog 131 #[.pointer (some ⟨b, 0, none⟩), .int .i64 room] w (TermP s room at_ b w))
    (hr : RdrAt w b s at_) (hat : at_ < s.size) (hv : VarsOk w) (hbc : byte s.data.toList at_ = c) (hc : c = 84) :
    Calls Tryz.prog 131 #[.pointer (some ⟨b, 0, none⟩), .int .i64 ((room + 1 : Nat) : Int)] w (TermQ (rdF s.data.toList room at_ c) s c.toNat c b w) := by
  have hform : formV b c.toNat = metV 143 b := by
    rcases hc with rfl <;> rfl
  have HFC := Lib.hid fun (bx : Nat) (w : World) hr hx hv => tuple_form b bx s room at_ (c.toNat : Int) c w hs hroom HT hr hx (by omega) hv hc
  have hix := fun W => index_at hat W
  have hfk : ∀ x, rdF s.data.toList room at_ c = some x → _ := fun x h => rdF_kids h (show at_ < s.data.toList.length from hat)
  have HFK := Lib.hid hfk
  rw [hbc] at hix
  obtain ⟨op, hop⟩ : ∃ op : Int, (c.toNat : Int) = op := ⟨_, rfl⟩
  rw [hop] at hform HFC
  simp only [hop] at hix
  have HFM := Lib.hid (form_any b op)
  rw [hform] at HFM
  unfold metV at HFM
  rw [hop]
  obtain ⟨F, hF⟩ : ∃ F, rdF s.data.toList room at_ c = F := ⟨_, rfl⟩
  rw [hF] at HFC HFK ⊢
  obtain ⟨rm, hrm⟩ : ∃ rm : Int, ((room + 1 : Nat) : Int) = rm := ⟨_, rfl⟩
  have g2 : (rm == 0) = false := beq_false_of_ne (by omega)
  rw [hrm] at HFC ⊢
  have HR := Lib.hid hr
  have HV := Lib.hid hv
  have HOP := Lib.hid hop
  have hwr : IntKind.i64.wrap ((at_ : Int) + 1) = ((at_ + 1 : Nat) : Int) := by rw [IntWalk.i64_in _ (by omega)]; omega
  have hba : ∀ o, Below w.heap.size w (w.alloc o) := fun o => (Below.refl _ _).alloc (Nat.le_refl _) o
  have hrA := fun o => hr.fr (Fr.below (F := []) (hba o)) (by simp)
  have d0 := fun o => (hrA o).cells.1
  have d1 := fun o => (hrA o).cells.2.1
  have hbl : b < w.heap.size := lt_of_block hr
  have g1 : ((at_ : Int) == (s.size : Int)) = false := beq_false_of_ne (by omega)
  have gi1 : (0 : Int) ≤ (at_ : Int) := by omega
  have gi2 : (at_ : Int) < (s.size : Int) := by omega
  clear hba hrA hr hv HT hform hbc hc hfk hF hrm hop
  go_enter Tryz.func131, Tryz.ntmps131
  go_wp2_with fail
  go_big_quiet (fail)
  go_wp2_with fail
  have hW1 : ∃ W1, ((w.alloc (.cells #[.int .u8 0, .int .i64 0, .string ⟨#[]⟩, .slice none 0 0, .int .i64 0] 162)).drewN nq).alloc (.cells #[.int .u8 0, .int .i64 0, .string ⟨#[]⟩, .slice none 0 0, .int .i64 1] 162) = W1 := ⟨_, rfl⟩
  obtain ⟨W1, hW1⟩ := hW1
  have hf1 : Fr [b] w W1 := by
    rw [← hW1]
    exact Fr.below (((below_drewN ((Below.refl _ _).alloc (Nat.le_refl _) _) nq)).alloc (by simp) _)
  have hr1 : RdrAt W1 b s at_ := by
    refine RdrAt.fr HR.out (F := []) ?_ (by simp)
    rw [← hW1]
    exact Fr.below (((below_drewN ((Below.refl _ _).alloc (Nat.le_refl _) _) nq)).alloc (by simp) _)
  have hx1 : ShapeAt W1 (w.heap.size + 1) 0 0 ⟨#[]⟩ (.slice none 0 0) 1 := by
    have h := Go.heap_alloc_new ((w.alloc (.cells #[.int .u8 0, .int .i64 0, .string ⟨#[]⟩, .slice none 0 0, .int .i64 0] 162)).drewN nq) (.cells #[.int .u8 0, .int .i64 0, .string ⟨#[]⟩, .slice none 0 0, .int .i64 1] 162)
    rw [hW1, show ((w.alloc (.cells #[.int .u8 0, .int .i64 0, .string ⟨#[]⟩, .slice none 0 0, .int .i64 0] 162)).drewN nq).heap.size = w.heap.size + 1 by simp] at h
    exact h
  have hz1 : ShapeAt W1 w.heap.size 0 0 ⟨#[]⟩ (.slice none 0 0) 0 := by
    have h := Go.heap_alloc_new w (.cells #[.int .u8 0, .int .i64 0, .string ⟨#[]⟩, .slice none 0 0, .int .i64 0] 162)
    have h2 := Go.heap_alloc_old ((w.alloc (.cells #[.int .u8 0, .int .i64 0, .string ⟨#[]⟩, .slice none 0 0, .int .i64 0] 162)).drewN nq) (.cells #[.int .u8 0, .int .i64 0, .string ⟨#[]⟩, .slice none 0 0, .int .i64 1] 162) (show w.heap.size < ((w.alloc (.cells #[.int .u8 0, .int .i64 0, .string ⟨#[]⟩, .slice none 0 0, .int .i64 0] 162)).drewN nq).heap.size by simp)
    rw [hW1] at h2
    exact h2.trans h
  rw [hW1]
  have HF1 := Lib.hid hf1
  have HR1 := Lib.hid hr1
  have HX1 := Lib.hid hx1
  have HZ1 := Lib.hid hz1
  clear hW1 hf1 hr1 hx1 hz1 d0 d1
  obtain ⟨d0, d1, -⟩ := HR1.out.cells
  go_still_tail 11, (by kernel_rfl)
  change wpList _ _ _ _ _ W1.drew
  have HF2 := Lib.hid (show Fr [b] w W1.drew from HF1.out.drewN 1)
  have HR2 := Lib.hid (show RdrAt W1.drew b s at_ from HR1.out)
  have HX2 := Lib.hid (show ShapeAt W1.drew (w.heap.size + 1) 0 0 ⟨#[]⟩ (.slice none 0 0) 1 from HX1.out)
  have HZ2 := Lib.hid (show ShapeAt W1.drew w.heap.size 0 0 ⟨#[]⟩ (.slice none 0 0) 0 from HZ1.out)
  clear HF1 HR1 HX1 HZ1 d0 d1
  generalize W1.drew = W2 at HF2 HR2 HX2 HZ2 ⊢
  obtain ⟨d0, d1, df⟩ := HR2.out.cells
  obtain ⟨c0, c1, c2, c3, c4, cf⟩ := HX2.out.cells
  have f0 := cf 0
  have f1 := df 1
  have hbx : w.heap.size + 1 ≠ b := by omega
  have hp1 : Fr [w.heap.size + 1] W2 (W2.setCell ⟨w.heap.size + 1, 0, none⟩ (.int .u8 op)) := Fr.put0 W2 _ 0 _ (List.mem_singleton.2 rfl)
  have hp2 : Fr [b] (W2.setCell ⟨w.heap.size + 1, 0, none⟩ (.int .u8 op)) ((W2.setCell ⟨w.heap.size + 1, 0, none⟩ (.int .u8 op)).setCell ⟨b, 1, none⟩ (.int .i64 ((at_ : Int) + 1))) := Fr.put0 _ _ 1 _ (List.mem_singleton.2 rfl)
  have hx3 : ShapeAt (W2.setCell ⟨w.heap.size + 1, 0, none⟩ (.int .u8 op)) (w.heap.size + 1) op 0 ⟨#[]⟩ (.slice none 0 0) 1 := HX2.out.putO 0 op
  have hr3 := HR2.out.fr hp1 (by simpa using fun e => hbx e.symm)
  have hz3 := HZ2.out.fr hp1 (by simp)
  have hf3 := HF2.out.trans hp1 (fun i hi hlt => absurd (show i = w.heap.size + 1 by simpa using hi) (by omega))
  have HR4 := Lib.hid (show RdrAt ((W2.setCell ⟨w.heap.size + 1, 0, none⟩ (.int .u8 op)).setCell ⟨b, 1, none⟩ (.int .i64 ((at_ : Int) + 1))) b s (at_ + 1) from hr3.put 0 (at_ + 1))
  have HX4 := Lib.hid (hx3.fr hp2 (by simpa using hbx))
  have HZ4 := Lib.hid (hz3.fr hp2 (by simp; omega))
  have HF4 := Lib.hid (hf3.trans hp2 (fun i hi _ => hi))
  have HV4 := Lib.hid (HV.out.fr HF4.out HR.out.notVar)
  have q0 := hx3.cells.1
  clear hp1 hp2 hx3 hr3 hz3 hf3 cf df HX2 HR2 HZ2 HF2
  have hnf := run_func_nil
  go_wp2_with fail
  refine (HFM.out _).mono ?_
  rintro e w' ⟨rfl, rfl⟩
  go_wp2_with fail
  generalize hW4 : (W2.setCell ⟨w.heap.size + 1, 0, none⟩ (.int .u8 op)).setCell ⟨b, 1, none⟩ (.int .i64 ((at_ : Int) + 1)) = W4 at HR4 HX4 HZ4 HF4 HV4 ⊢
  clear hW4 q0 c0 c1 c2 c3 c4 d0 d1 f0 f1
  refine (HFC.out (w.heap.size + 1) W4 HR4.out HX4.out HV4.out).mono ?_
  rintro e W5 hP
  cases F with
  | none =>
    obtain ⟨rfl, hf5⟩ := hP
    have hz5 := HZ4.out.fr hf5 (by simp; omega)
    have hF5 := HF4.out.trans hf5 (fun i hi hlt => by
      rcases List.mem_cons.1 hi with rfl | hi
      · exact List.mem_cons_self ..
      · exact absurd (show i = w.heap.size + 1 by simpa using hi) (by omega))
    obtain ⟨z0, z1, z2, z3, z4, zf⟩ := hz5.cells
    have zf0 := zf 0
    have zf1 := zf 1
    have zf2 := zf 2
    have zf3 := zf 3
    have zf4 := zf 4
    have HZ5 := Lib.hid hz5
    have HF5 := Lib.hid hF5
    clear hf5 hz5 hF5 zf
    have hA := put5_at (show W5.heap[w.heap.size]? = some (.cells #[.int .u8 0, .int .i64 0, .string ⟨#[]⟩, .slice none 0 0, .int .i64 0] 162 (0, 0)) from HZ5.out) (.int .u8 0) (.int .i64 0) (.string ⟨#[]⟩) (.slice none 0 0) (.int .i64 0)
    have hF : Fr [b] w (put5 W5 w.heap.size (.int .u8 0) (.int .i64 0) (.string ⟨#[]⟩) (.slice none 0 0) (.int .i64 0)) := HF5.out.trans (put5_fr _ _ _ _ _ _ _ (List.mem_singleton.2 rfl)) (fun i hi hlt => absurd (show i = w.heap.size by simpa using hi) (by omega))
    have HA := Lib.hid hA
    have HF := Lib.hid hF
    clear hA hF
    go_wp2_with fail
    change bodyPost _ _ _ _ _ (put5 W5 w.heap.size (.int .u8 0) (.int .i64 0) (.string ⟨#[]⟩) (.slice none 0 0) (.int .i64 0))
    generalize put5 W5 w.heap.size (.int .u8 0) (.int .i64 0) (.string ⟨#[]⟩) (.slice none 0 0) (.int .i64 0) = Wf at HA HF ⊢
    obtain ⟨r0, r1, r2, r3, r4, -⟩ := ShapeAt.cells (show ShapeAt Wf w.heap.size 0 0 ⟨#[]⟩ (.slice none 0 0) 0 from HA.out)
    exact bodyPost_ret (v := .tuple #[shapeV 0 0 ⟨#[]⟩ (.slice none 0 0) 0, .bool false]) (by simp [results, Tryz.results131, go_sem, r0, r1, r2, r3, r4, shapeV]) rfl ⟨rfl, HF.out⟩
  | some x =>
    obtain ⟨rfl, hr5, ⟨A, cap, hx5, hcl⟩, hf5⟩ := hP
    have hz5 := HZ4.out.fr hf5 (by simp; omega)
    have hF5 := HF4.out.trans hf5 (fun i hi hlt => by
      rcases List.mem_cons.1 hi with rfl | hi
      · exact List.mem_cons_self ..
      · exact absurd (show i = w.heap.size + 1 by simpa using hi) (by omega))
    obtain ⟨k1, k2, k3, k4, k5, k6, k7, k8⟩ := HFK.out x rfl
    have hfit := fits_any s c op HOP.out x.kids x.num x.deep (textOf s c x) A cap W5 (cells_of_own hcl) hs (by rw [pieces_len]; omega) (fun i hi => by rw [pieces_len] at hi; exact k6 i hi) (fun h => by rw [pieces_len]; exact k7 h) (fun h => by rw [pieces_len]; exact k8 h)
    unfold shapeV at hfit
    have HFI := Lib.hid hfit
    obtain ⟨c0, c1, c2, c3, c4, -⟩ := hx5.cells
    have HR5 := Lib.hid hr5
    have HX5 := Lib.hid hx5
    have HCL := Lib.hid hcl
    have HZ5 := Lib.hid hz5
    have HF5 := Lib.hid hF5
    clear hr5 hx5 hcl hz5 hF5 hf5 hfit k1 k2 k3 k4 k5 k6 k7 k8
    go_wp2_with fail
    refine HFI.out.mono ?_
    rintro e W6 ⟨rfl, hb6⟩
    have hz6 := HZ5.out.fr (Fr.below (F := []) hb6) (by simp)
    have hF6 := HF5.out.trans (Fr.below (F := []) hb6) (fun i hi _ => by cases hi)
    have hx6 := HX5.out.fr (Fr.below (F := []) hb6) (by simp)
    have hr6 := HR5.out.fr (Fr.below (F := []) hb6) (by simp)
    have hc6 := own_below HCL.out hb6
    obtain ⟨z0, z1, z2, z3, z4, zf⟩ := hz6.cells
    have zf0 := zf 0
    have zf1 := zf 1
    have zf2 := zf 2
    have zf3 := zf 3
    have zf4 := zf 4
    obtain ⟨x0, x1, x2, x3, x4, -⟩ := hx6.cells
    have HZ6 := Lib.hid hz6
    have HF6 := Lib.hid hF6
    have HR6 := Lib.hid hr6
    have HC6 := Lib.hid hc6
    clear hz6 hF6 hx6 hr6 hc6 zf hb6 c0 c1 c2 c3 c4
    cases hq : fitsB s.data.toList c x.kids with
    | false =>
      have HQ := Lib.hid hq
      clear hq
      have hA := put5_at (show W6.heap[w.heap.size]? = some (.cells #[.int .u8 0, .int .i64 0, .string ⟨#[]⟩, .slice none 0 0, .int .i64 0] 162 (0, 0)) from HZ6.out) (.int .u8 0) (.int .i64 0) (.string ⟨#[]⟩) (.slice none 0 0) (.int .i64 0)
      have hF : Fr [b] w (put5 W6 w.heap.size (.int .u8 0) (.int .i64 0) (.string ⟨#[]⟩) (.slice none 0 0) (.int .i64 0)) := HF6.out.trans (put5_fr _ _ _ _ _ _ _ (List.mem_singleton.2 rfl)) (fun i hi hlt => absurd (show i = w.heap.size by simpa using hi) (by omega))
      have HA := Lib.hid hA
      have HF := Lib.hid hF
      clear hA hF
      go_wp2_with fail
      change bodyPost _ _ _ _ _ (put5 W6 w.heap.size (.int .u8 0) (.int .i64 0) (.string ⟨#[]⟩) (.slice none 0 0) (.int .i64 0))
      generalize put5 W6 w.heap.size (.int .u8 0) (.int .i64 0) (.string ⟨#[]⟩) (.slice none 0 0) (.int .i64 0) = Wf at HA HF ⊢
      obtain ⟨r0, r1, r2, r3, r4, -⟩ := ShapeAt.cells (show ShapeAt Wf w.heap.size 0 0 ⟨#[]⟩ (.slice none 0 0) 0 from HA.out)
      exact bodyPost_ret (v := .tuple #[shapeV 0 0 ⟨#[]⟩ (.slice none 0 0) 0, .bool false]) (by simp [results, Tryz.results131, go_sem, r0, r1, r2, r3, r4, shapeV]) rfl (by unfold TermQ; simp only; rw [if_neg (by rw [HQ.out]; decide)]; exact ⟨trivial, HF.out⟩)
    | true =>
      have HQ := Lib.hid hq
      clear hq
      have hA := put5_at (show W6.heap[w.heap.size]? = some (.cells #[.int .u8 0, .int .i64 0, .string ⟨#[]⟩, .slice none 0 0, .int .i64 0] 162 (0, 0)) from HZ6.out) (.int .u8 op) (.int .i64 x.num) (.string (textOf s c x)) (.slice A (pieces s x.kids).length cap) (.int .i64 x.deep)
      have hp := put5_fr W6 w.heap.size (.int .u8 op) (.int .i64 x.num) (.string (textOf s c x)) (.slice A (pieces s x.kids).length cap) (.int .i64 x.deep) (F := [w.heap.size]) (by simp)
      have hF := HF6.out.trans hp (fun i hi hlt => absurd (show i = w.heap.size by simpa using hi) (by omega))
      have hrF := HR6.out.fr hp (by simp; omega)
      have hcF := own_fr HC6.out hp (fun g hg => by simpa using own_ne_shape HC6.out (by decide) HZ6.out g hg)
      have HA := Lib.hid hA
      have HF := Lib.hid hF
      have HRF := Lib.hid hrF
      have HCF := Lib.hid hcF
      clear hA hF hp hrF hcF
      go_wp2_with fail
      change bodyPost _ _ _ _ _ (put5 W6 w.heap.size (.int .u8 op) (.int .i64 x.num) (.string (textOf s c x)) (.slice A (pieces s x.kids).length cap) (.int .i64 x.deep))
      generalize put5 W6 w.heap.size (.int .u8 op) (.int .i64 x.num) (.string (textOf s c x)) (.slice A (pieces s x.kids).length cap) (.int .i64 x.deep) = Wf at HA HF HRF HCF ⊢
      obtain ⟨r0, r1, r2, r3, r4, -⟩ := ShapeAt.cells (show ShapeAt Wf w.heap.size op x.num (textOf s c x) (.slice A (pieces s x.kids).length cap) x.deep from HA.out)
      refine bodyPost_ret (v := .tuple #[shapeV op x.num (textOf s c x) (.slice A (pieces s x.kids).length cap) x.deep, .bool true]) (by simp [results, Tryz.results131, go_sem, r0, r1, r2, r3, r4, shapeV]) rfl ?_
      unfold TermQ
      simp only
      rw [if_pos HQ.out]
      exact ⟨A, cap, rfl, HRF.out, HCF.out, HF.out⟩
set_option maxRecDepth 100000 in
set_option maxHeartbeats 8000000 in
theorem term_one (b : Nat) (s : ByteArray) (room at_ : Nat) (c : UInt8) (w : World) (hs : s.size ≤ 1000000) (hroom : room ≤ 1000)
    (HT : ∀ (at_ : Nat) (w : World), RdrAt w b s at_ → at_ ≤ s.size → VarsOk w → Calls Tryz.prog 131 #[.pointer (some ⟨b, 0, none⟩), .int .i64 room] w (TermP s room at_ b w))
    (hr : RdrAt w b s at_) (hat : at_ < s.size) (hv : VarsOk w) (hbc : byte s.data.toList at_ = c) (hc : c = 80 ∨ c = 72) :
    Calls Tryz.prog 131 #[.pointer (some ⟨b, 0, none⟩), .int .i64 ((room + 1 : Nat) : Int)] w (TermQ (rdF s.data.toList room at_ c) s c.toNat c b w) := by
  have hform : formV b c.toNat = metV 144 b := by
    rcases hc with rfl | rfl <;> rfl
  have HFC := Lib.hid fun (bx : Nat) (w : World) hr hx hv => one_form b bx s room at_ (c.toNat : Int) c w hs hroom HT hr hx (by omega) hv hc
  have hix := fun W => index_at hat W
  have hfk : ∀ x, rdF s.data.toList room at_ c = some x → _ := fun x h => rdF_kids h (show at_ < s.data.toList.length from hat)
  have HFK := Lib.hid hfk
  rw [hbc] at hix
  obtain ⟨op, hop⟩ : ∃ op : Int, (c.toNat : Int) = op := ⟨_, rfl⟩
  rw [hop] at hform HFC
  simp only [hop] at hix
  have HFM := Lib.hid (form_any b op)
  rw [hform] at HFM
  unfold metV at HFM
  rw [hop]
  obtain ⟨F, hF⟩ : ∃ F, rdF s.data.toList room at_ c = F := ⟨_, rfl⟩
  rw [hF] at HFC HFK ⊢
  obtain ⟨rm, hrm⟩ : ∃ rm : Int, ((room + 1 : Nat) : Int) = rm := ⟨_, rfl⟩
  have g2 : (rm == 0) = false := beq_false_of_ne (by omega)
  rw [hrm] at HFC ⊢
  have HR := Lib.hid hr
  have HV := Lib.hid hv
  have HOP := Lib.hid hop
  have hwr : IntKind.i64.wrap ((at_ : Int) + 1) = ((at_ + 1 : Nat) : Int) := by rw [IntWalk.i64_in _ (by omega)]; omega
  have hba : ∀ o, Below w.heap.size w (w.alloc o) := fun o => (Below.refl _ _).alloc (Nat.le_refl _) o
  have hrA := fun o => hr.fr (Fr.below (F := []) (hba o)) (by simp)
  have d0 := fun o => (hrA o).cells.1
  have d1 := fun o => (hrA o).cells.2.1
  have hbl : b < w.heap.size := lt_of_block hr
  have g1 : ((at_ : Int) == (s.size : Int)) = false := beq_false_of_ne (by omega)
  have gi1 : (0 : Int) ≤ (at_ : Int) := by omega
  have gi2 : (at_ : Int) < (s.size : Int) := by omega
  clear hba hrA hr hv HT hform hbc hc hfk hF hrm hop
  go_enter Tryz.func131, Tryz.ntmps131
  go_wp2_with fail
  go_big_quiet (fail)
  go_wp2_with fail
  have hW1 : ∃ W1, ((w.alloc (.cells #[.int .u8 0, .int .i64 0, .string ⟨#[]⟩, .slice none 0 0, .int .i64 0] 162)).drewN nq).alloc (.cells #[.int .u8 0, .int .i64 0, .string ⟨#[]⟩, .slice none 0 0, .int .i64 1] 162) = W1 := ⟨_, rfl⟩
  obtain ⟨W1, hW1⟩ := hW1
  have hf1 : Fr [b] w W1 := by
    rw [← hW1]
    exact Fr.below (((below_drewN ((Below.refl _ _).alloc (Nat.le_refl _) _) nq)).alloc (by simp) _)
  have hr1 : RdrAt W1 b s at_ := by
    refine RdrAt.fr HR.out (F := []) ?_ (by simp)
    rw [← hW1]
    exact Fr.below (((below_drewN ((Below.refl _ _).alloc (Nat.le_refl _) _) nq)).alloc (by simp) _)
  have hx1 : ShapeAt W1 (w.heap.size + 1) 0 0 ⟨#[]⟩ (.slice none 0 0) 1 := by
    have h := Go.heap_alloc_new ((w.alloc (.cells #[.int .u8 0, .int .i64 0, .string ⟨#[]⟩, .slice none 0 0, .int .i64 0] 162)).drewN nq) (.cells #[.int .u8 0, .int .i64 0, .string ⟨#[]⟩, .slice none 0 0, .int .i64 1] 162)
    rw [hW1, show ((w.alloc (.cells #[.int .u8 0, .int .i64 0, .string ⟨#[]⟩, .slice none 0 0, .int .i64 0] 162)).drewN nq).heap.size = w.heap.size + 1 by simp] at h
    exact h
  have hz1 : ShapeAt W1 w.heap.size 0 0 ⟨#[]⟩ (.slice none 0 0) 0 := by
    have h := Go.heap_alloc_new w (.cells #[.int .u8 0, .int .i64 0, .string ⟨#[]⟩, .slice none 0 0, .int .i64 0] 162)
    have h2 := Go.heap_alloc_old ((w.alloc (.cells #[.int .u8 0, .int .i64 0, .string ⟨#[]⟩, .slice none 0 0, .int .i64 0] 162)).drewN nq) (.cells #[.int .u8 0, .int .i64 0, .string ⟨#[]⟩, .slice none 0 0, .int .i64 1] 162) (show w.heap.size < ((w.alloc (.cells #[.int .u8 0, .int .i64 0, .string ⟨#[]⟩, .slice none 0 0, .int .i64 0] 162)).drewN nq).heap.size by simp)
    rw [hW1] at h2
    exact h2.trans h
  rw [hW1]
  have HF1 := Lib.hid hf1
  have HR1 := Lib.hid hr1
  have HX1 := Lib.hid hx1
  have HZ1 := Lib.hid hz1
  clear hW1 hf1 hr1 hx1 hz1 d0 d1
  obtain ⟨d0, d1, -⟩ := HR1.out.cells
  go_still_tail 11, (by kernel_rfl)
  change wpList _ _ _ _ _ W1.drew
  have HF2 := Lib.hid (show Fr [b] w W1.drew from HF1.out.drewN 1)
  have HR2 := Lib.hid (show RdrAt W1.drew b s at_ from HR1.out)
  have HX2 := Lib.hid (show ShapeAt W1.drew (w.heap.size + 1) 0 0 ⟨#[]⟩ (.slice none 0 0) 1 from HX1.out)
  have HZ2 := Lib.hid (show ShapeAt W1.drew w.heap.size 0 0 ⟨#[]⟩ (.slice none 0 0) 0 from HZ1.out)
  clear HF1 HR1 HX1 HZ1 d0 d1
  generalize W1.drew = W2 at HF2 HR2 HX2 HZ2 ⊢
  obtain ⟨d0, d1, df⟩ := HR2.out.cells
  obtain ⟨c0, c1, c2, c3, c4, cf⟩ := HX2.out.cells
  have f0 := cf 0
  have f1 := df 1
  have hbx : w.heap.size + 1 ≠ b := by omega
  have hp1 : Fr [w.heap.size + 1] W2 (W2.setCell ⟨w.heap.size + 1, 0, none⟩ (.int .u8 op)) := Fr.put0 W2 _ 0 _ (List.mem_singleton.2 rfl)
  have hp2 : Fr [b] (W2.setCell ⟨w.heap.size + 1, 0, none⟩ (.int .u8 op)) ((W2.setCell ⟨w.heap.size + 1, 0, none⟩ (.int .u8 op)).setCell ⟨b, 1, none⟩ (.int .i64 ((at_ : Int) + 1))) := Fr.put0 _ _ 1 _ (List.mem_singleton.2 rfl)
  have hx3 : ShapeAt (W2.setCell ⟨w.heap.size + 1, 0, none⟩ (.int .u8 op)) (w.heap.size + 1) op 0 ⟨#[]⟩ (.slice none 0 0) 1 := HX2.out.putO 0 op
  have hr3 := HR2.out.fr hp1 (by simpa using fun e => hbx e.symm)
  have hz3 := HZ2.out.fr hp1 (by simp)
  have hf3 := HF2.out.trans hp1 (fun i hi hlt => absurd (show i = w.heap.size + 1 by simpa using hi) (by omega))
  have HR4 := Lib.hid (show RdrAt ((W2.setCell ⟨w.heap.size + 1, 0, none⟩ (.int .u8 op)).setCell ⟨b, 1, none⟩ (.int .i64 ((at_ : Int) + 1))) b s (at_ + 1) from hr3.put 0 (at_ + 1))
  have HX4 := Lib.hid (hx3.fr hp2 (by simpa using hbx))
  have HZ4 := Lib.hid (hz3.fr hp2 (by simp; omega))
  have HF4 := Lib.hid (hf3.trans hp2 (fun i hi _ => hi))
  have HV4 := Lib.hid (HV.out.fr HF4.out HR.out.notVar)
  have q0 := hx3.cells.1
  clear hp1 hp2 hx3 hr3 hz3 hf3 cf df HX2 HR2 HZ2 HF2
  have hnf := run_func_nil
  go_wp2_with fail
  refine (HFM.out _).mono ?_
  rintro e w' ⟨rfl, rfl⟩
  go_wp2_with fail
  generalize hW4 : (W2.setCell ⟨w.heap.size + 1, 0, none⟩ (.int .u8 op)).setCell ⟨b, 1, none⟩ (.int .i64 ((at_ : Int) + 1)) = W4 at HR4 HX4 HZ4 HF4 HV4 ⊢
  clear hW4 q0 c0 c1 c2 c3 c4 d0 d1 f0 f1
  refine (HFC.out (w.heap.size + 1) W4 HR4.out HX4.out HV4.out).mono ?_
  rintro e W5 hP
  cases F with
  | none =>
    obtain ⟨rfl, hf5⟩ := hP
    have hz5 := HZ4.out.fr hf5 (by simp; omega)
    have hF5 := HF4.out.trans hf5 (fun i hi hlt => by
      rcases List.mem_cons.1 hi with rfl | hi
      · exact List.mem_cons_self ..
      · exact absurd (show i = w.heap.size + 1 by simpa using hi) (by omega))
    obtain ⟨z0, z1, z2, z3, z4, zf⟩ := hz5.cells
    have zf0 := zf 0
    have zf1 := zf 1
    have zf2 := zf 2
    have zf3 := zf 3
    have zf4 := zf 4
    have HZ5 := Lib.hid hz5
    have HF5 := Lib.hid hF5
    clear hf5 hz5 hF5 zf
    have hA := put5_at (show W5.heap[w.heap.size]? = some (.cells #[.int .u8 0, .int .i64 0, .string ⟨#[]⟩, .slice none 0 0, .int .i64 0] 162 (0, 0)) from HZ5.out) (.int .u8 0) (.int .i64 0) (.string ⟨#[]⟩) (.slice none 0 0) (.int .i64 0)
    have hF : Fr [b] w (put5 W5 w.heap.size (.int .u8 0) (.int .i64 0) (.string ⟨#[]⟩) (.slice none 0 0) (.int .i64 0)) := HF5.out.trans (put5_fr _ _ _ _ _ _ _ (List.mem_singleton.2 rfl)) (fun i hi hlt => absurd (show i = w.heap.size by simpa using hi) (by omega))
    have HA := Lib.hid hA
    have HF := Lib.hid hF
    clear hA hF
    go_wp2_with fail
    change bodyPost _ _ _ _ _ (put5 W5 w.heap.size (.int .u8 0) (.int .i64 0) (.string ⟨#[]⟩) (.slice none 0 0) (.int .i64 0))
    generalize put5 W5 w.heap.size (.int .u8 0) (.int .i64 0) (.string ⟨#[]⟩) (.slice none 0 0) (.int .i64 0) = Wf at HA HF ⊢
    obtain ⟨r0, r1, r2, r3, r4, -⟩ := ShapeAt.cells (show ShapeAt Wf w.heap.size 0 0 ⟨#[]⟩ (.slice none 0 0) 0 from HA.out)
    exact bodyPost_ret (v := .tuple #[shapeV 0 0 ⟨#[]⟩ (.slice none 0 0) 0, .bool false]) (by simp [results, Tryz.results131, go_sem, r0, r1, r2, r3, r4, shapeV]) rfl ⟨rfl, HF.out⟩
  | some x =>
    obtain ⟨rfl, hr5, ⟨A, cap, hx5, hcl⟩, hf5⟩ := hP
    have hz5 := HZ4.out.fr hf5 (by simp; omega)
    have hF5 := HF4.out.trans hf5 (fun i hi hlt => by
      rcases List.mem_cons.1 hi with rfl | hi
      · exact List.mem_cons_self ..
      · exact absurd (show i = w.heap.size + 1 by simpa using hi) (by omega))
    obtain ⟨k1, k2, k3, k4, k5, k6, k7, k8⟩ := HFK.out x rfl
    have hfit := fits_any s c op HOP.out x.kids x.num x.deep (textOf s c x) A cap W5 (cells_of_own hcl) hs (by rw [pieces_len]; omega) (fun i hi => by rw [pieces_len] at hi; exact k6 i hi) (fun h => by rw [pieces_len]; exact k7 h) (fun h => by rw [pieces_len]; exact k8 h)
    unfold shapeV at hfit
    have HFI := Lib.hid hfit
    obtain ⟨c0, c1, c2, c3, c4, -⟩ := hx5.cells
    have HR5 := Lib.hid hr5
    have HX5 := Lib.hid hx5
    have HCL := Lib.hid hcl
    have HZ5 := Lib.hid hz5
    have HF5 := Lib.hid hF5
    clear hr5 hx5 hcl hz5 hF5 hf5 hfit k1 k2 k3 k4 k5 k6 k7 k8
    go_wp2_with fail
    refine HFI.out.mono ?_
    rintro e W6 ⟨rfl, hb6⟩
    have hz6 := HZ5.out.fr (Fr.below (F := []) hb6) (by simp)
    have hF6 := HF5.out.trans (Fr.below (F := []) hb6) (fun i hi _ => by cases hi)
    have hx6 := HX5.out.fr (Fr.below (F := []) hb6) (by simp)
    have hr6 := HR5.out.fr (Fr.below (F := []) hb6) (by simp)
    have hc6 := own_below HCL.out hb6
    obtain ⟨z0, z1, z2, z3, z4, zf⟩ := hz6.cells
    have zf0 := zf 0
    have zf1 := zf 1
    have zf2 := zf 2
    have zf3 := zf 3
    have zf4 := zf 4
    obtain ⟨x0, x1, x2, x3, x4, -⟩ := hx6.cells
    have HZ6 := Lib.hid hz6
    have HF6 := Lib.hid hF6
    have HR6 := Lib.hid hr6
    have HC6 := Lib.hid hc6
    clear hz6 hF6 hx6 hr6 hc6 zf hb6 c0 c1 c2 c3 c4
    cases hq : fitsB s.data.toList c x.kids with
    | false =>
      have HQ := Lib.hid hq
      clear hq
      have hA := put5_at (show W6.heap[w.heap.size]? = some (.cells #[.int .u8 0, .int .i64 0, .string ⟨#[]⟩, .slice none 0 0, .int .i64 0] 162 (0, 0)) from HZ6.out) (.int .u8 0) (.int .i64 0) (.string ⟨#[]⟩) (.slice none 0 0) (.int .i64 0)
      have hF : Fr [b] w (put5 W6 w.heap.size (.int .u8 0) (.int .i64 0) (.string ⟨#[]⟩) (.slice none 0 0) (.int .i64 0)) := HF6.out.trans (put5_fr _ _ _ _ _ _ _ (List.mem_singleton.2 rfl)) (fun i hi hlt => absurd (show i = w.heap.size by simpa using hi) (by omega))
      have HA := Lib.hid hA
      have HF := Lib.hid hF
      clear hA hF
      go_wp2_with fail
      change bodyPost _ _ _ _ _ (put5 W6 w.heap.size (.int .u8 0) (.int .i64 0) (.string ⟨#[]⟩) (.slice none 0 0) (.int .i64 0))
      generalize put5 W6 w.heap.size (.int .u8 0) (.int .i64 0) (.string ⟨#[]⟩) (.slice none 0 0) (.int .i64 0) = Wf at HA HF ⊢
      obtain ⟨r0, r1, r2, r3, r4, -⟩ := ShapeAt.cells (show ShapeAt Wf w.heap.size 0 0 ⟨#[]⟩ (.slice none 0 0) 0 from HA.out)
      exact bodyPost_ret (v := .tuple #[shapeV 0 0 ⟨#[]⟩ (.slice none 0 0) 0, .bool false]) (by simp [results, Tryz.results131, go_sem, r0, r1, r2, r3, r4, shapeV]) rfl (by unfold TermQ; simp only; rw [if_neg (by rw [HQ.out]; decide)]; exact ⟨trivial, HF.out⟩)
    | true =>
      have HQ := Lib.hid hq
      clear hq
      have hA := put5_at (show W6.heap[w.heap.size]? = some (.cells #[.int .u8 0, .int .i64 0, .string ⟨#[]⟩, .slice none 0 0, .int .i64 0] 162 (0, 0)) from HZ6.out) (.int .u8 op) (.int .i64 x.num) (.string (textOf s c x)) (.slice A (pieces s x.kids).length cap) (.int .i64 x.deep)
      have hp := put5_fr W6 w.heap.size (.int .u8 op) (.int .i64 x.num) (.string (textOf s c x)) (.slice A (pieces s x.kids).length cap) (.int .i64 x.deep) (F := [w.heap.size]) (by simp)
      have hF := HF6.out.trans hp (fun i hi hlt => absurd (show i = w.heap.size by simpa using hi) (by omega))
      have hrF := HR6.out.fr hp (by simp; omega)
      have hcF := own_fr HC6.out hp (fun g hg => by simpa using own_ne_shape HC6.out (by decide) HZ6.out g hg)
      have HA := Lib.hid hA
      have HF := Lib.hid hF
      have HRF := Lib.hid hrF
      have HCF := Lib.hid hcF
      clear hA hF hp hrF hcF
      go_wp2_with fail
      change bodyPost _ _ _ _ _ (put5 W6 w.heap.size (.int .u8 op) (.int .i64 x.num) (.string (textOf s c x)) (.slice A (pieces s x.kids).length cap) (.int .i64 x.deep))
      generalize put5 W6 w.heap.size (.int .u8 op) (.int .i64 x.num) (.string (textOf s c x)) (.slice A (pieces s x.kids).length cap) (.int .i64 x.deep) = Wf at HA HF HRF HCF ⊢
      obtain ⟨r0, r1, r2, r3, r4, -⟩ := ShapeAt.cells (show ShapeAt Wf w.heap.size op x.num (textOf s c x) (.slice A (pieces s x.kids).length cap) x.deep from HA.out)
      refine bodyPost_ret (v := .tuple #[shapeV op x.num (textOf s c x) (.slice A (pieces s x.kids).length cap) x.deep, .bool true]) (by simp [results, Tryz.results131, go_sem, r0, r1, r2, r3, r4, shapeV]) rfl ?_
      unfold TermQ
      simp only
      rw [if_pos HQ.out]
      exact ⟨A, cap, rfl, HRF.out, HCF.out, HF.out⟩
set_option maxRecDepth 100000 in
set_option maxHeartbeats 8000000 in
theorem term_two (b : Nat) (s : ByteArray) (room at_ : Nat) (c : UInt8) (w : World) (hs : s.size ≤ 1000000) (hroom : room ≤ 1000)
    (HT : ∀ (at_ : Nat) (w : World), RdrAt w b s at_ → at_ ≤ s.size → VarsOk w → Calls Tryz.prog 131 #[.pointer (some ⟨b, 0, none⟩), .int .i64 room] w (TermP s room at_ b w))
    (hr : RdrAt w b s at_) (hat : at_ < s.size) (hv : VarsOk w) (hbc : byte s.data.toList at_ = c) (hc : c = 83 ∨ c = 66 ∨ c = 88 ∨ c = 68 ∨ c = 86 ∨ c = 87 ∨ c = 75 ∨ c = 76) :
    Calls Tryz.prog 131 #[.pointer (some ⟨b, 0, none⟩), .int .i64 ((room + 1 : Nat) : Int)] w (TermQ (rdF s.data.toList room at_ c) s c.toNat c b w) := by
  have hform : formV b c.toNat = metV 145 b := by
    rcases hc with rfl | rfl | rfl | rfl | rfl | rfl | rfl | rfl <;> rfl
  have HFC := Lib.hid fun (bx : Nat) (w : World) hr hx hv => two_form b bx s room at_ (c.toNat : Int) c w hs hroom HT hr hx (by omega) hv hc
  have hix := fun W => index_at hat W
  have hfk : ∀ x, rdF s.data.toList room at_ c = some x → _ := fun x h => rdF_kids h (show at_ < s.data.toList.length from hat)
  have HFK := Lib.hid hfk
  rw [hbc] at hix
  obtain ⟨op, hop⟩ : ∃ op : Int, (c.toNat : Int) = op := ⟨_, rfl⟩
  rw [hop] at hform HFC
  simp only [hop] at hix
  have HFM := Lib.hid (form_any b op)
  rw [hform] at HFM
  unfold metV at HFM
  rw [hop]
  obtain ⟨F, hF⟩ : ∃ F, rdF s.data.toList room at_ c = F := ⟨_, rfl⟩
  rw [hF] at HFC HFK ⊢
  obtain ⟨rm, hrm⟩ : ∃ rm : Int, ((room + 1 : Nat) : Int) = rm := ⟨_, rfl⟩
  have g2 : (rm == 0) = false := beq_false_of_ne (by omega)
  rw [hrm] at HFC ⊢
  have HR := Lib.hid hr
  have HV := Lib.hid hv
  have HOP := Lib.hid hop
  have hwr : IntKind.i64.wrap ((at_ : Int) + 1) = ((at_ + 1 : Nat) : Int) := by rw [IntWalk.i64_in _ (by omega)]; omega
  have hba : ∀ o, Below w.heap.size w (w.alloc o) := fun o => (Below.refl _ _).alloc (Nat.le_refl _) o
  have hrA := fun o => hr.fr (Fr.below (F := []) (hba o)) (by simp)
  have d0 := fun o => (hrA o).cells.1
  have d1 := fun o => (hrA o).cells.2.1
  have hbl : b < w.heap.size := lt_of_block hr
  have g1 : ((at_ : Int) == (s.size : Int)) = false := beq_false_of_ne (by omega)
  have gi1 : (0 : Int) ≤ (at_ : Int) := by omega
  have gi2 : (at_ : Int) < (s.size : Int) := by omega
  clear hba hrA hr hv HT hform hbc hc hfk hF hrm hop
  go_enter Tryz.func131, Tryz.ntmps131
  go_wp2_with fail
  go_big_quiet (fail)
  go_wp2_with fail
  have hW1 : ∃ W1, ((w.alloc (.cells #[.int .u8 0, .int .i64 0, .string ⟨#[]⟩, .slice none 0 0, .int .i64 0] 162)).drewN nq).alloc (.cells #[.int .u8 0, .int .i64 0, .string ⟨#[]⟩, .slice none 0 0, .int .i64 1] 162) = W1 := ⟨_, rfl⟩
  obtain ⟨W1, hW1⟩ := hW1
  have hf1 : Fr [b] w W1 := by
    rw [← hW1]
    exact Fr.below (((below_drewN ((Below.refl _ _).alloc (Nat.le_refl _) _) nq)).alloc (by simp) _)
  have hr1 : RdrAt W1 b s at_ := by
    refine RdrAt.fr HR.out (F := []) ?_ (by simp)
    rw [← hW1]
    exact Fr.below (((below_drewN ((Below.refl _ _).alloc (Nat.le_refl _) _) nq)).alloc (by simp) _)
  have hx1 : ShapeAt W1 (w.heap.size + 1) 0 0 ⟨#[]⟩ (.slice none 0 0) 1 := by
    have h := Go.heap_alloc_new ((w.alloc (.cells #[.int .u8 0, .int .i64 0, .string ⟨#[]⟩, .slice none 0 0, .int .i64 0] 162)).drewN nq) (.cells #[.int .u8 0, .int .i64 0, .string ⟨#[]⟩, .slice none 0 0, .int .i64 1] 162)
    rw [hW1, show ((w.alloc (.cells #[.int .u8 0, .int .i64 0, .string ⟨#[]⟩, .slice none 0 0, .int .i64 0] 162)).drewN nq).heap.size = w.heap.size + 1 by simp] at h
    exact h
  have hz1 : ShapeAt W1 w.heap.size 0 0 ⟨#[]⟩ (.slice none 0 0) 0 := by
    have h := Go.heap_alloc_new w (.cells #[.int .u8 0, .int .i64 0, .string ⟨#[]⟩, .slice none 0 0, .int .i64 0] 162)
    have h2 := Go.heap_alloc_old ((w.alloc (.cells #[.int .u8 0, .int .i64 0, .string ⟨#[]⟩, .slice none 0 0, .int .i64 0] 162)).drewN nq) (.cells #[.int .u8 0, .int .i64 0, .string ⟨#[]⟩, .slice none 0 0, .int .i64 1] 162) (show w.heap.size < ((w.alloc (.cells #[.int .u8 0, .int .i64 0, .string ⟨#[]⟩, .slice none 0 0, .int .i64 0] 162)).drewN nq).heap.size by simp)
    rw [hW1] at h2
    exact h2.trans h
  rw [hW1]
  have HF1 := Lib.hid hf1
  have HR1 := Lib.hid hr1
  have HX1 := Lib.hid hx1
  have HZ1 := Lib.hid hz1
  clear hW1 hf1 hr1 hx1 hz1 d0 d1
  obtain ⟨d0, d1, -⟩ := HR1.out.cells
  go_still_tail 11, (by kernel_rfl)
  change wpList _ _ _ _ _ W1.drew
  have HF2 := Lib.hid (show Fr [b] w W1.drew from HF1.out.drewN 1)
  have HR2 := Lib.hid (show RdrAt W1.drew b s at_ from HR1.out)
  have HX2 := Lib.hid (show ShapeAt W1.drew (w.heap.size + 1) 0 0 ⟨#[]⟩ (.slice none 0 0) 1 from HX1.out)
  have HZ2 := Lib.hid (show ShapeAt W1.drew w.heap.size 0 0 ⟨#[]⟩ (.slice none 0 0) 0 from HZ1.out)
  clear HF1 HR1 HX1 HZ1 d0 d1
  generalize W1.drew = W2 at HF2 HR2 HX2 HZ2 ⊢
  obtain ⟨d0, d1, df⟩ := HR2.out.cells
  obtain ⟨c0, c1, c2, c3, c4, cf⟩ := HX2.out.cells
  have f0 := cf 0
  have f1 := df 1
  have hbx : w.heap.size + 1 ≠ b := by omega
  have hp1 : Fr [w.heap.size + 1] W2 (W2.setCell ⟨w.heap.size + 1, 0, none⟩ (.int .u8 op)) := Fr.put0 W2 _ 0 _ (List.mem_singleton.2 rfl)
  have hp2 : Fr [b] (W2.setCell ⟨w.heap.size + 1, 0, none⟩ (.int .u8 op)) ((W2.setCell ⟨w.heap.size + 1, 0, none⟩ (.int .u8 op)).setCell ⟨b, 1, none⟩ (.int .i64 ((at_ : Int) + 1))) := Fr.put0 _ _ 1 _ (List.mem_singleton.2 rfl)
  have hx3 : ShapeAt (W2.setCell ⟨w.heap.size + 1, 0, none⟩ (.int .u8 op)) (w.heap.size + 1) op 0 ⟨#[]⟩ (.slice none 0 0) 1 := HX2.out.putO 0 op
  have hr3 := HR2.out.fr hp1 (by simpa using fun e => hbx e.symm)
  have hz3 := HZ2.out.fr hp1 (by simp)
  have hf3 := HF2.out.trans hp1 (fun i hi hlt => absurd (show i = w.heap.size + 1 by simpa using hi) (by omega))
  have HR4 := Lib.hid (show RdrAt ((W2.setCell ⟨w.heap.size + 1, 0, none⟩ (.int .u8 op)).setCell ⟨b, 1, none⟩ (.int .i64 ((at_ : Int) + 1))) b s (at_ + 1) from hr3.put 0 (at_ + 1))
  have HX4 := Lib.hid (hx3.fr hp2 (by simpa using hbx))
  have HZ4 := Lib.hid (hz3.fr hp2 (by simp; omega))
  have HF4 := Lib.hid (hf3.trans hp2 (fun i hi _ => hi))
  have HV4 := Lib.hid (HV.out.fr HF4.out HR.out.notVar)
  have q0 := hx3.cells.1
  clear hp1 hp2 hx3 hr3 hz3 hf3 cf df HX2 HR2 HZ2 HF2
  have hnf := run_func_nil
  go_wp2_with fail
  refine (HFM.out _).mono ?_
  rintro e w' ⟨rfl, rfl⟩
  go_wp2_with fail
  generalize hW4 : (W2.setCell ⟨w.heap.size + 1, 0, none⟩ (.int .u8 op)).setCell ⟨b, 1, none⟩ (.int .i64 ((at_ : Int) + 1)) = W4 at HR4 HX4 HZ4 HF4 HV4 ⊢
  clear hW4 q0 c0 c1 c2 c3 c4 d0 d1 f0 f1
  refine (HFC.out (w.heap.size + 1) W4 HR4.out HX4.out HV4.out).mono ?_
  rintro e W5 hP
  cases F with
  | none =>
    obtain ⟨rfl, hf5⟩ := hP
    have hz5 := HZ4.out.fr hf5 (by simp; omega)
    have hF5 := HF4.out.trans hf5 (fun i hi hlt => by
      rcases List.mem_cons.1 hi with rfl | hi
      · exact List.mem_cons_self ..
      · exact absurd (show i = w.heap.size + 1 by simpa using hi) (by omega))
    obtain ⟨z0, z1, z2, z3, z4, zf⟩ := hz5.cells
    have zf0 := zf 0
    have zf1 := zf 1
    have zf2 := zf 2
    have zf3 := zf 3
    have zf4 := zf 4
    have HZ5 := Lib.hid hz5
    have HF5 := Lib.hid hF5
    clear hf5 hz5 hF5 zf
    have hA := put5_at (show W5.heap[w.heap.size]? = some (.cells #[.int .u8 0, .int .i64 0, .string ⟨#[]⟩, .slice none 0 0, .int .i64 0] 162 (0, 0)) from HZ5.out) (.int .u8 0) (.int .i64 0) (.string ⟨#[]⟩) (.slice none 0 0) (.int .i64 0)
    have hF : Fr [b] w (put5 W5 w.heap.size (.int .u8 0) (.int .i64 0) (.string ⟨#[]⟩) (.slice none 0 0) (.int .i64 0)) := HF5.out.trans (put5_fr _ _ _ _ _ _ _ (List.mem_singleton.2 rfl)) (fun i hi hlt => absurd (show i = w.heap.size by simpa using hi) (by omega))
    have HA := Lib.hid hA
    have HF := Lib.hid hF
    clear hA hF
    go_wp2_with fail
    change bodyPost _ _ _ _ _ (put5 W5 w.heap.size (.int .u8 0) (.int .i64 0) (.string ⟨#[]⟩) (.slice none 0 0) (.int .i64 0))
    generalize put5 W5 w.heap.size (.int .u8 0) (.int .i64 0) (.string ⟨#[]⟩) (.slice none 0 0) (.int .i64 0) = Wf at HA HF ⊢
    obtain ⟨r0, r1, r2, r3, r4, -⟩ := ShapeAt.cells (show ShapeAt Wf w.heap.size 0 0 ⟨#[]⟩ (.slice none 0 0) 0 from HA.out)
    exact bodyPost_ret (v := .tuple #[shapeV 0 0 ⟨#[]⟩ (.slice none 0 0) 0, .bool false]) (by simp [results, Tryz.results131, go_sem, r0, r1, r2, r3, r4, shapeV]) rfl ⟨rfl, HF.out⟩
  | some x =>
    obtain ⟨rfl, hr5, ⟨A, cap, hx5, hcl⟩, hf5⟩ := hP
    have hz5 := HZ4.out.fr hf5 (by simp; omega)
    have hF5 := HF4.out.trans hf5 (fun i hi hlt => by
      rcases List.mem_cons.1 hi with rfl | hi
      · exact List.mem_cons_self ..
      · exact absurd (show i = w.heap.size + 1 by simpa using hi) (by omega))
    obtain ⟨k1, k2, k3, k4, k5, k6, k7, k8⟩ := HFK.out x rfl
    have hfit := fits_any s c op HOP.out x.kids x.num x.deep (textOf s c x) A cap W5 (cells_of_own hcl) hs (by rw [pieces_len]; omega) (fun i hi => by rw [pieces_len] at hi; exact k6 i hi) (fun h => by rw [pieces_len]; exact k7 h) (fun h => by rw [pieces_len]; exact k8 h)
    unfold shapeV at hfit
    have HFI := Lib.hid hfit
    obtain ⟨c0, c1, c2, c3, c4, -⟩ := hx5.cells
    have HR5 := Lib.hid hr5
    have HX5 := Lib.hid hx5
    have HCL := Lib.hid hcl
    have HZ5 := Lib.hid hz5
    have HF5 := Lib.hid hF5
    clear hr5 hx5 hcl hz5 hF5 hf5 hfit k1 k2 k3 k4 k5 k6 k7 k8
    go_wp2_with fail
    refine HFI.out.mono ?_
    rintro e W6 ⟨rfl, hb6⟩
    have hz6 := HZ5.out.fr (Fr.below (F := []) hb6) (by simp)
    have hF6 := HF5.out.trans (Fr.below (F := []) hb6) (fun i hi _ => by cases hi)
    have hx6 := HX5.out.fr (Fr.below (F := []) hb6) (by simp)
    have hr6 := HR5.out.fr (Fr.below (F := []) hb6) (by simp)
    have hc6 := own_below HCL.out hb6
    obtain ⟨z0, z1, z2, z3, z4, zf⟩ := hz6.cells
    have zf0 := zf 0
    have zf1 := zf 1
    have zf2 := zf 2
    have zf3 := zf 3
    have zf4 := zf 4
    obtain ⟨x0, x1, x2, x3, x4, -⟩ := hx6.cells
    have HZ6 := Lib.hid hz6
    have HF6 := Lib.hid hF6
    have HR6 := Lib.hid hr6
    have HC6 := Lib.hid hc6
    clear hz6 hF6 hx6 hr6 hc6 zf hb6 c0 c1 c2 c3 c4
    cases hq : fitsB s.data.toList c x.kids with
    | false =>
      have HQ := Lib.hid hq
      clear hq
      have hA := put5_at (show W6.heap[w.heap.size]? = some (.cells #[.int .u8 0, .int .i64 0, .string ⟨#[]⟩, .slice none 0 0, .int .i64 0] 162 (0, 0)) from HZ6.out) (.int .u8 0) (.int .i64 0) (.string ⟨#[]⟩) (.slice none 0 0) (.int .i64 0)
      have hF : Fr [b] w (put5 W6 w.heap.size (.int .u8 0) (.int .i64 0) (.string ⟨#[]⟩) (.slice none 0 0) (.int .i64 0)) := HF6.out.trans (put5_fr _ _ _ _ _ _ _ (List.mem_singleton.2 rfl)) (fun i hi hlt => absurd (show i = w.heap.size by simpa using hi) (by omega))
      have HA := Lib.hid hA
      have HF := Lib.hid hF
      clear hA hF
      go_wp2_with fail
      change bodyPost _ _ _ _ _ (put5 W6 w.heap.size (.int .u8 0) (.int .i64 0) (.string ⟨#[]⟩) (.slice none 0 0) (.int .i64 0))
      generalize put5 W6 w.heap.size (.int .u8 0) (.int .i64 0) (.string ⟨#[]⟩) (.slice none 0 0) (.int .i64 0) = Wf at HA HF ⊢
      obtain ⟨r0, r1, r2, r3, r4, -⟩ := ShapeAt.cells (show ShapeAt Wf w.heap.size 0 0 ⟨#[]⟩ (.slice none 0 0) 0 from HA.out)
      exact bodyPost_ret (v := .tuple #[shapeV 0 0 ⟨#[]⟩ (.slice none 0 0) 0, .bool false]) (by simp [results, Tryz.results131, go_sem, r0, r1, r2, r3, r4, shapeV]) rfl (by unfold TermQ; simp only; rw [if_neg (by rw [HQ.out]; decide)]; exact ⟨trivial, HF.out⟩)
    | true =>
      have HQ := Lib.hid hq
      clear hq
      have hA := put5_at (show W6.heap[w.heap.size]? = some (.cells #[.int .u8 0, .int .i64 0, .string ⟨#[]⟩, .slice none 0 0, .int .i64 0] 162 (0, 0)) from HZ6.out) (.int .u8 op) (.int .i64 x.num) (.string (textOf s c x)) (.slice A (pieces s x.kids).length cap) (.int .i64 x.deep)
      have hp := put5_fr W6 w.heap.size (.int .u8 op) (.int .i64 x.num) (.string (textOf s c x)) (.slice A (pieces s x.kids).length cap) (.int .i64 x.deep) (F := [w.heap.size]) (by simp)
      have hF := HF6.out.trans hp (fun i hi hlt => absurd (show i = w.heap.size by simpa using hi) (by omega))
      have hrF := HR6.out.fr hp (by simp; omega)
      have hcF := own_fr HC6.out hp (fun g hg => by simpa using own_ne_shape HC6.out (by decide) HZ6.out g hg)
      have HA := Lib.hid hA
      have HF := Lib.hid hF
      have HRF := Lib.hid hrF
      have HCF := Lib.hid hcF
      clear hA hF hp hrF hcF
      go_wp2_with fail
      change bodyPost _ _ _ _ _ (put5 W6 w.heap.size (.int .u8 op) (.int .i64 x.num) (.string (textOf s c x)) (.slice A (pieces s x.kids).length cap) (.int .i64 x.deep))
      generalize put5 W6 w.heap.size (.int .u8 op) (.int .i64 x.num) (.string (textOf s c x)) (.slice A (pieces s x.kids).length cap) (.int .i64 x.deep) = Wf at HA HF HRF HCF ⊢
      obtain ⟨r0, r1, r2, r3, r4, -⟩ := ShapeAt.cells (show ShapeAt Wf w.heap.size op x.num (textOf s c x) (.slice A (pieces s x.kids).length cap) x.deep from HA.out)
      refine bodyPost_ret (v := .tuple #[shapeV op x.num (textOf s c x) (.slice A (pieces s x.kids).length cap) x.deep, .bool true]) (by simp [results, Tryz.results131, go_sem, r0, r1, r2, r3, r4, shapeV]) rfl ?_
      unfold TermQ
      simp only
      rw [if_pos HQ.out]
      exact ⟨A, cap, rfl, HRF.out, HCF.out, HF.out⟩
theorem head_none {s : List UInt8} {room at_ : Nat} {c : UInt8} (h1 : c ≠ 110) (h2 : c ≠ 116) (h3 : c ≠ 84) (h4 : ¬ (c = 80 ∨ c = 72)) (h5 : ¬ (c = 83 ∨ c = 66 ∨ c = 88 ∨ c = 68 ∨ c = 86 ∨ c = 87 ∨ c = 75 ∨ c = 76)) : rdF s room at_ c = none := by
  unfold rdF head arity
  rw [if_neg h1, if_neg h2, if_neg h3, if_neg h4, if_neg h5]
  rfl
theorem form_none {b : Nat} {c : UInt8} (h1 : c ≠ 110) (h2 : c ≠ 116) (h3 : c ≠ 84) (h4 : ¬ (c = 80 ∨ c = 72)) (h5 : ¬ (c = 83 ∨ c = 66 ∨ c = 88 ∨ c = 68 ∨ c = 86 ∨ c = 87 ∨ c = 75 ∨ c = 76)) : formV b c.toNat = .nilFunc := by
  have hh : ∀ d : UInt8, c ≠ d → ¬ ((c.toNat : Int) = (d.toNat : Int)) := fun d hd h => hd (UInt8.toNat_inj.1 (by omega))
  have p := fun (d : UInt8) (hd : c ≠ d) => hh d hd
  have q110 : ¬ ((c.toNat : Int) = 110) := p 110 h1
  have q116 : ¬ ((c.toNat : Int) = 116) := p 116 h2
  have q84 : ¬ ((c.toNat : Int) = 84) := p 84 h3
  have q80 : ¬ ((c.toNat : Int) = 80) := p 80 (fun h => h4 (.inl h))
  have q72 : ¬ ((c.toNat : Int) = 72) := p 72 (fun h => h4 (.inr h))
  have q83 : ¬ ((c.toNat : Int) = 83) := p 83 (fun h => h5 (.inl h))
  have q66 : ¬ ((c.toNat : Int) = 66) := p 66 (fun h => h5 (.inr (.inl h)))
  have q88 : ¬ ((c.toNat : Int) = 88) := p 88 (fun h => h5 (.inr (.inr (.inl h))))
  have q68 : ¬ ((c.toNat : Int) = 68) := p 68 (fun h => h5 (.inr (.inr (.inr (.inl h)))))
  have q86 : ¬ ((c.toNat : Int) = 86) := p 86 (fun h => h5 (.inr (.inr (.inr (.inr (.inl h))))))
  have q87 : ¬ ((c.toNat : Int) = 87) := p 87 (fun h => h5 (.inr (.inr (.inr (.inr (.inr (.inl h)))))))
  have q75 : ¬ ((c.toNat : Int) = 75) := p 75 (fun h => h5 (.inr (.inr (.inr (.inr (.inr (.inr (.inl h))))))))
  have q76 : ¬ ((c.toNat : Int) = 76) := p 76 (fun h => h5 (.inr (.inr (.inr (.inr (.inr (.inr (.inr h))))))))
  unfold formV
  rw [if_neg q110, if_neg q116, if_neg q84, if_neg q80, if_neg q72, if_neg q83, if_neg q66, if_neg q88, if_neg q68, if_neg q86, if_neg q87, if_neg q75, if_neg q76]
set_option maxRecDepth 100000 in
set_option maxHeartbeats 8000000 in
theorem term_nil (b : Nat) (s : ByteArray) (room at_ : Nat) (c : UInt8) (w : World) (hs : s.size ≤ 1000000) (hroom : room ≤ 1000)
    (_HT : ∀ (at_ : Nat) (w : World), RdrAt w b s at_ → at_ ≤ s.size → VarsOk w → Calls Tryz.prog 131 #[.pointer (some ⟨b, 0, none⟩), .int .i64 room] w (TermP s room at_ b w))
    (hr : RdrAt w b s at_) (hat : at_ < s.size) (hv : VarsOk w) (hbc : byte s.data.toList at_ = c) (h1 : c ≠ 110) (h2 : c ≠ 116) (h3 : c ≠ 84) (h4 : ¬ (c = 80 ∨ c = 72)) (h5 : ¬ (c = 83 ∨ c = 66 ∨ c = 88 ∨ c = 68 ∨ c = 86 ∨ c = 87 ∨ c = 75 ∨ c = 76)) :
    Calls Tryz.prog 131 #[.pointer (some ⟨b, 0, none⟩), .int .i64 ((room + 1 : Nat) : Int)] w (TermQ (rdF s.data.toList room at_ c) s c.toNat c b w) := by
  have hform := form_none (b := b) h1 h2 h3 h4 h5
  have hFn : rdF s.data.toList room at_ c = none := head_none h1 h2 h3 h4 h5
  have hix := fun W => index_at hat W
  rw [hbc] at hix
  obtain ⟨op, hop⟩ : ∃ op : Int, (c.toNat : Int) = op := ⟨_, rfl⟩
  rw [hop] at hform
  simp only [hop] at hix
  have HFM := Lib.hid (form_any b op)
  rw [hform] at HFM
  rw [hop]
  rw [hFn]
  obtain ⟨rm, hrm⟩ : ∃ rm : Int, ((room + 1 : Nat) : Int) = rm := ⟨_, rfl⟩
  have g2 : (rm == 0) = false := beq_false_of_ne (by omega)
  rw [hrm]
  have HR := Lib.hid hr
  have HV := Lib.hid hv
  have HOP := Lib.hid hop
  have hwr : IntKind.i64.wrap ((at_ : Int) + 1) = ((at_ + 1 : Nat) : Int) := by rw [IntWalk.i64_in _ (by omega)]; omega
  have hba : ∀ o, Below w.heap.size w (w.alloc o) := fun o => (Below.refl _ _).alloc (Nat.le_refl _) o
  have hrA := fun o => hr.fr (Fr.below (F := []) (hba o)) (by simp)
  have d0 := fun o => (hrA o).cells.1
  have d1 := fun o => (hrA o).cells.2.1
  have hbl : b < w.heap.size := lt_of_block hr
  have g1 : ((at_ : Int) == (s.size : Int)) = false := beq_false_of_ne (by omega)
  have gi1 : (0 : Int) ≤ (at_ : Int) := by omega
  have gi2 : (at_ : Int) < (s.size : Int) := by omega
  clear hba hrA hr hv _HT hform hbc h1 h2 h3 h4 h5 hFn hrm hop
  go_enter Tryz.func131, Tryz.ntmps131
  go_wp2_with fail
  go_big_quiet (fail)
  go_wp2_with fail
  have hW1 : ∃ W1, ((w.alloc (.cells #[.int .u8 0, .int .i64 0, .string ⟨#[]⟩, .slice none 0 0, .int .i64 0] 162)).drewN nq).alloc (.cells #[.int .u8 0, .int .i64 0, .string ⟨#[]⟩, .slice none 0 0, .int .i64 1] 162) = W1 := ⟨_, rfl⟩
  obtain ⟨W1, hW1⟩ := hW1
  have hf1 : Fr [b] w W1 := by
    rw [← hW1]
    exact Fr.below (((below_drewN ((Below.refl _ _).alloc (Nat.le_refl _) _) nq)).alloc (by simp) _)
  have hr1 : RdrAt W1 b s at_ := by
    refine RdrAt.fr HR.out (F := []) ?_ (by simp)
    rw [← hW1]
    exact Fr.below (((below_drewN ((Below.refl _ _).alloc (Nat.le_refl _) _) nq)).alloc (by simp) _)
  have hx1 : ShapeAt W1 (w.heap.size + 1) 0 0 ⟨#[]⟩ (.slice none 0 0) 1 := by
    have h := Go.heap_alloc_new ((w.alloc (.cells #[.int .u8 0, .int .i64 0, .string ⟨#[]⟩, .slice none 0 0, .int .i64 0] 162)).drewN nq) (.cells #[.int .u8 0, .int .i64 0, .string ⟨#[]⟩, .slice none 0 0, .int .i64 1] 162)
    rw [hW1, show ((w.alloc (.cells #[.int .u8 0, .int .i64 0, .string ⟨#[]⟩, .slice none 0 0, .int .i64 0] 162)).drewN nq).heap.size = w.heap.size + 1 by simp] at h
    exact h
  have hz1 : ShapeAt W1 w.heap.size 0 0 ⟨#[]⟩ (.slice none 0 0) 0 := by
    have h := Go.heap_alloc_new w (.cells #[.int .u8 0, .int .i64 0, .string ⟨#[]⟩, .slice none 0 0, .int .i64 0] 162)
    have h2 := Go.heap_alloc_old ((w.alloc (.cells #[.int .u8 0, .int .i64 0, .string ⟨#[]⟩, .slice none 0 0, .int .i64 0] 162)).drewN nq) (.cells #[.int .u8 0, .int .i64 0, .string ⟨#[]⟩, .slice none 0 0, .int .i64 1] 162) (show w.heap.size < ((w.alloc (.cells #[.int .u8 0, .int .i64 0, .string ⟨#[]⟩, .slice none 0 0, .int .i64 0] 162)).drewN nq).heap.size by simp)
    rw [hW1] at h2
    exact h2.trans h
  rw [hW1]
  have HF1 := Lib.hid hf1
  have HR1 := Lib.hid hr1
  have HX1 := Lib.hid hx1
  have HZ1 := Lib.hid hz1
  clear hW1 hf1 hr1 hx1 hz1 d0 d1
  obtain ⟨d0, d1, -⟩ := HR1.out.cells
  go_still_tail 11, (by kernel_rfl)
  change wpList _ _ _ _ _ W1.drew
  have HF2 := Lib.hid (show Fr [b] w W1.drew from HF1.out.drewN 1)
  have HR2 := Lib.hid (show RdrAt W1.drew b s at_ from HR1.out)
  have HX2 := Lib.hid (show ShapeAt W1.drew (w.heap.size + 1) 0 0 ⟨#[]⟩ (.slice none 0 0) 1 from HX1.out)
  have HZ2 := Lib.hid (show ShapeAt W1.drew w.heap.size 0 0 ⟨#[]⟩ (.slice none 0 0) 0 from HZ1.out)
  clear HF1 HR1 HX1 HZ1 d0 d1
  generalize W1.drew = W2 at HF2 HR2 HX2 HZ2 ⊢
  obtain ⟨d0, d1, df⟩ := HR2.out.cells
  obtain ⟨c0, c1, c2, c3, c4, cf⟩ := HX2.out.cells
  have f0 := cf 0
  have f1 := df 1
  have hbx : w.heap.size + 1 ≠ b := by omega
  have hp1 : Fr [w.heap.size + 1] W2 (W2.setCell ⟨w.heap.size + 1, 0, none⟩ (.int .u8 op)) := Fr.put0 W2 _ 0 _ (List.mem_singleton.2 rfl)
  have hp2 : Fr [b] (W2.setCell ⟨w.heap.size + 1, 0, none⟩ (.int .u8 op)) ((W2.setCell ⟨w.heap.size + 1, 0, none⟩ (.int .u8 op)).setCell ⟨b, 1, none⟩ (.int .i64 ((at_ : Int) + 1))) := Fr.put0 _ _ 1 _ (List.mem_singleton.2 rfl)
  have hx3 : ShapeAt (W2.setCell ⟨w.heap.size + 1, 0, none⟩ (.int .u8 op)) (w.heap.size + 1) op 0 ⟨#[]⟩ (.slice none 0 0) 1 := HX2.out.putO 0 op
  have hr3 := HR2.out.fr hp1 (by simpa using fun e => hbx e.symm)
  have hz3 := HZ2.out.fr hp1 (by simp)
  have hf3 := HF2.out.trans hp1 (fun i hi hlt => absurd (show i = w.heap.size + 1 by simpa using hi) (by omega))
  have HR4 := Lib.hid (show RdrAt ((W2.setCell ⟨w.heap.size + 1, 0, none⟩ (.int .u8 op)).setCell ⟨b, 1, none⟩ (.int .i64 ((at_ : Int) + 1))) b s (at_ + 1) from hr3.put 0 (at_ + 1))
  have HX4 := Lib.hid (hx3.fr hp2 (by simpa using hbx))
  have HZ4 := Lib.hid (hz3.fr hp2 (by simp; omega))
  have HF4 := Lib.hid (hf3.trans hp2 (fun i hi _ => hi))
  have HV4 := Lib.hid (HV.out.fr HF4.out HR.out.notVar)
  have q0 := hx3.cells.1
  have hz4 := HZ4.out
  obtain ⟨z0, z1, z2, z3, z4, zf⟩ := hz4.cells
  have zf0 := zf 0
  have zf1 := zf 1
  have zf2 := zf 2
  have zf3 := zf 3
  have zf4 := zf 4
  have hA := put5_at (show ((W2.setCell ⟨w.heap.size + 1, 0, none⟩ (.int .u8 op)).setCell ⟨b, 1, none⟩ (.int .i64 ((at_ : Int) + 1))).heap[w.heap.size]? = some (.cells #[.int .u8 0, .int .i64 0, .string ⟨#[]⟩, .slice none 0 0, .int .i64 0] 162 (0, 0)) from hz4) (.int .u8 0) (.int .i64 0) (.string ⟨#[]⟩) (.slice none 0 0) (.int .i64 0)
  have hF := HF4.out.trans (put5_fr _ w.heap.size (.int .u8 0) (.int .i64 0) (.string ⟨#[]⟩) (.slice none 0 0) (.int .i64 0) (List.mem_singleton.2 rfl)) (fun i hi hlt => absurd (show i = w.heap.size by simpa using hi) (by omega))
  have HA := Lib.hid hA
  have HF := Lib.hid hF
  clear hp1 hp2 hx3 hr3 hz3 hf3 cf df HX2 HR2 HZ2 HF2 hA hF zf hz4
  have hnf := run_nil_nil
  go_wp2_with fail
  refine (HFM.out _).mono ?_
  rintro e w' ⟨rfl, rfl⟩
  go_wp2_with fail
  change bodyPost _ _ _ _ _ (put5 ((W2.setCell ⟨w.heap.size + 1, 0, none⟩ (.int .u8 op)).setCell ⟨b, 1, none⟩ (.int .i64 ((at_ : Int) + 1))) w.heap.size (.int .u8 0) (.int .i64 0) (.string ⟨#[]⟩) (.slice none 0 0) (.int .i64 0))
  clear z0 z1 z2 z3 z4 zf0 zf1 zf2 zf3 zf4 q0 c0 c1 c2 c3 c4 d0 d1 f0 f1
  generalize put5 ((W2.setCell ⟨w.heap.size + 1, 0, none⟩ (.int .u8 op)).setCell ⟨b, 1, none⟩ (.int .i64 ((at_ : Int) + 1))) w.heap.size (.int .u8 0) (.int .i64 0) (.string ⟨#[]⟩) (.slice none 0 0) (.int .i64 0) = Wf at HA HF ⊢
  obtain ⟨r0, r1, r2, r3, r4, -⟩ := ShapeAt.cells (show ShapeAt Wf w.heap.size 0 0 ⟨#[]⟩ (.slice none 0 0) 0 from HA.out)
  exact bodyPost_ret (v := .tuple #[shapeV 0 0 ⟨#[]⟩ (.slice none 0 0) 0, .bool false]) (by simp [results, Tryz.results131, go_sem, r0, r1, r2, r3, r4, shapeV]) rfl ⟨rfl, HF.out⟩
end Go.Proofs.YtncniomiplnaaaaGreatDoor

namespace Go.Proofs.YtncniomiplnaaaaGreatDoor
open Go.RowKit

set_option maxRecDepth 100000 in
set_option maxHeartbeats 8000000 in
theorem term_zero (b : Nat) (s : ByteArray) (at_ : Nat) (w : World) (hr : RdrAt w b s at_) (hat : at_ < s.size) (_hs : s.size ≤ 1000000) :
    Calls Tryz.prog 131 #[.pointer (some ⟨b, 0, none⟩), .int .i64 0] w fun e w' => e = .returned (.tuple #[shapeV 0 0 ⟨#[]⟩ (.slice none 0 0) 0, .bool false]) ∧ Fr [b] w w' := by
  have hbA : ∀ o, Below w.heap.size w (w.alloc o) := fun o => (Below.refl _ _).alloc (Nat.le_refl _) o
  have hrA := fun o => hr.fr (Fr.below (F := []) (hbA o)) (by simp)
  have d0 := fun o => (hrA o).cells.1
  have d1 := fun o => (hrA o).cells.2.1
  have g1 : ((at_ : Int) == (s.size : Int)) = false := beq_false_of_ne (by omega)
  clear hbA hrA hr
  go_enter Tryz.func131, Tryz.ntmps131
  go_wp2_with fail
  go_big_quiet (fail)
  go_wp2_with fail
  change bodyPost _ _ _ _ _ (put5 ((w.alloc (.cells #[.int .u8 0, .int .i64 0, .string ⟨#[]⟩, .slice none 0 0, .int .i64 0] 162)).drewN nq) w.heap.size (.int .u8 0) (.int .i64 0) (.string ⟨#[]⟩) (.slice none 0 0) (.int .i64 0))
  have hA := put5_at (w := (w.alloc (.cells #[.int .u8 0, .int .i64 0, .string ⟨#[]⟩, .slice none 0 0, .int .i64 0] 162)).drewN nq) (Go.heap_alloc_new w _) (.int .u8 0) (.int .i64 0) (.string ⟨#[]⟩) (.slice none 0 0) (.int .i64 0)
  have hF : Fr [b] w (put5 ((w.alloc (.cells #[.int .u8 0, .int .i64 0, .string ⟨#[]⟩, .slice none 0 0, .int .i64 0] 162)).drewN nq) w.heap.size (.int .u8 0) (.int .i64 0) (.string ⟨#[]⟩) (.slice none 0 0) (.int .i64 0)) := ((Fr.below (F := [b]) ((Below.refl _ _).alloc (Nat.le_refl _) _)).drewN nq).trans (put5_fr _ _ _ _ _ _ _ (List.mem_singleton.2 rfl)) (fun i hi hlt => absurd (show i = w.heap.size by simpa using hi) (by omega))
  generalize put5 ((w.alloc (.cells #[.int .u8 0, .int .i64 0, .string ⟨#[]⟩, .slice none 0 0, .int .i64 0] 162)).drewN nq) w.heap.size (.int .u8 0) (.int .i64 0) (.string ⟨#[]⟩) (.slice none 0 0) (.int .i64 0) = Wf at hA hF ⊢
  obtain ⟨r0, r1, r2, r3, r4, -⟩ := ShapeAt.cells (show ShapeAt Wf w.heap.size 0 0 ⟨#[]⟩ (.slice none 0 0) 0 from hA)
  exact bodyPost_ret (v := .tuple #[shapeV 0 0 ⟨#[]⟩ (.slice none 0 0) 0, .bool false]) (by simp [results, Tryz.results131, go_sem, r0, r1, r2, r3, r4, shapeV]) rfl ⟨rfl, hF⟩
theorem term_any (b : Nat) (s : ByteArray) (hs : s.size ≤ 1000000) : ∀ (room : Nat), room ≤ 1000 → ∀ (at_ : Nat) (w : World), RdrAt w b s at_ → at_ ≤ s.size → VarsOk w → Calls Tryz.prog 131 #[.pointer (some ⟨b, 0, none⟩), .int .i64 room] w (TermP s room at_ b w)
  | 0, _, at_, w, hr, hat, _ => by
    have hn : rd s.data.toList 0 at_ = none := rfl
    rcases Nat.lt_or_eq_of_le hat with h | rfl
    · exact (term_zero b s at_ w hr h hs).mono fun e w' hp => by unfold TermP; rw [hn]; exact hp
    · exact (term_end b s 0 w hr).mono fun e w' hp => by unfold TermP; rw [hn]; exact hp
  | room + 1, hroom, at_, w, hr, hat, hv => by
    rcases Nat.lt_or_eq_of_le hat with h | rfl
    · have HT := fun (a : Nat) (w : World) hr ha hv => term_any b s hs room (by omega) a w hr ha hv
      obtain ⟨c, hc⟩ : ∃ c, s.data.toList[at_]? = some c := ⟨_, List.getElem?_eq_getElem (show at_ < s.data.toList.length from h)⟩
      have hbc : byte s.data.toList at_ = c := by unfold byte; rw [List.getD_eq_getElem?_getD, hc]; rfl
      by_cases h1 : c = 110
      · exact (term_name b s room at_ c w hs (by omega) HT hr h hv hbc h1).mono fun e w' hp => termQ_P hc hp
      by_cases h2 : c = 116
      · exact (term_text b s room at_ c w hs (by omega) HT hr h hv hbc h2).mono fun e w' hp => termQ_P hc hp
      by_cases h3 : c = 84
      · exact (term_tuple b s room at_ c w hs (by omega) HT hr h hv hbc h3).mono fun e w' hp => termQ_P hc hp
      by_cases h4 : c = 80 ∨ c = 72
      · exact (term_one b s room at_ c w hs (by omega) HT hr h hv hbc h4).mono fun e w' hp => termQ_P hc hp
      by_cases h5 : c = 83 ∨ c = 66 ∨ c = 88 ∨ c = 68 ∨ c = 86 ∨ c = 87 ∨ c = 75 ∨ c = 76
      · exact (term_two b s room at_ c w hs (by omega) HT hr h hv hbc h5).mono fun e w' hp => termQ_P hc hp
      exact (term_nil b s room at_ c w hs (by omega) HT hr h hv hbc h1 h2 h3 h4 h5).mono fun e w' hp => termQ_P hc hp
    · have hn : rd s.data.toList (room + 1) s.size = none := by
        unfold rd
        rw [List.getElem?_eq_none (show s.data.toList.length ≤ s.size from Nat.le_of_eq rfl)]
      exact (term_end b s (room + 1) w hr).mono fun e w' hp => by unfold TermP; rw [hn]; exact hp
end Go.Proofs.YtncniomiplnaaaaGreatDoor
