/- The document's reader of terms: parts. -/
import Derived.Test.YtaonadgelkdbcaaGreatDoorQ9
import Derived.Test.YtaonadgelkdbcaaGreatDoorQ5
namespace Go.Proofs.YtaonadgelkdbcaaGreatDoor
open Go.RowKit

theorem row_fr {F : List Nat} {w w' : World} {base : Nat} {E : TypeId} {v : Value} {xs : List Value} (h : Row w base E v xs) (hf : Fr F w w') (hF : ∀ g, v.ownBlock = some g → g ∉ F) : Row w' base E v xs := by
  rcases h with h | ⟨g, off, cap, cur, fr, rfl, hb, hh, r⟩
  · exact .inl h
  · exact .inr ⟨g, off, cap, cur, fr, rfl, hb, (hf.block g (lt_of_block hh) (hF g rfl)).trans hh, r⟩
theorem row_ne_cut {w : World} {base b : Nat} {E : TypeId} {v ks : Value} {xs : List Value} {e d n f : Int} (h : Row w base E v xs) (hE : E ≠ 95) (hc : CutAt w b e d n f ks) : ∀ g, v.ownBlock = some g → g ≠ b := fun g hg eq => by
  rcases h with ⟨rfl, -⟩ | ⟨g', off, cap, cur, fr, rfl, hb, hh, r⟩
  · cases hg
  · injection hg with hg
    have hg' : g' = g := hg
    subst hg'
    subst eq
    unfold CutAt at hc
    rw [hc] at hh
    injection hh with hh
    injection hh with h1 h2
    exact hE h2.symm
theorem row_cells {w : World} {base n c : Nat} {E : TypeId} {A : Option Addr} {xs : List Value} (h : Row w base E (.slice A n c) xs) : Cells w A xs := by
  obtain ⟨A', c', hv, -, hc⟩ := Row.shape h
  injection hv with h1 h2 h3
  subst h1
  exact hc
theorem slInt : SlTy Tryz.prog 80 3 (.int .i64 0) 8 := ⟨Tryz.underlying80, by kernel_rfl, rfl⟩
set_option maxRecDepth 100000 in
set_option maxHeartbeats 8000000 in
theorem rread_arity (s : ByteArray) (room at_ : Nat) (c : UInt8) (n : Nat) (w : World) (hs : s.size ≤ 1000000) (hat : at_ < s.size) (hroom : room ≤ 1000) (hbc : byte s.data.toList at_ = c) (h110 : c ≠ 110) (h116 : c ≠ 116) (h84 : c ≠ 84) (har : arity c = some n)
    (HT : ∀ (at_ : Nat) (w : World), at_ ≤ s.size → Calls Tryz.prog 59 #[.string s, .int .i64 at_, .int .i64 room] w (RReadP s room at_ w)) :
    Calls Tryz.prog 59 #[.string s, .int .i64 at_, .int .i64 ((room + 1 : Nat) : Int)] w (RReadP s (room + 1) at_ w) := by
  have hc : s.data.toList[at_]? = some c := by rw [← hbc]; unfold byte; rw [List.getD_eq_getElem?_getD, List.getElem?_eq_getElem (show at_ < s.data.toList.length from hat)]; rfl
  have hrd := rd_rdF (room := room) hc
  have hkf := fun x (h : rdF s.data.toList room at_ c = some x) => rdF_kids h (show at_ < s.data.toList.length from hat)
  obtain ⟨nx, hnxe⟩ : ∃ nx, at_ + 1 = nx := ⟨_, rfl⟩
  obtain ⟨R, hR⟩ : ∃ R, kidsL (rd s.data.toList room) n nx 1 [nx] = R := ⟨_, rfl⟩
  have hrf : rdF s.data.toList room at_ c = cutOf R := by
    unfold rdF head
    rw [if_neg h110, if_neg h116, if_neg h84, har, ← hR, ← hnxe]
    rfl
  rw [hrf] at hrd
  simp only [hrf] at hkf
  have hn2 : n ≤ 2 := by
    unfold arity at har
    split at har
    · injection har with h; omega
    · split at har
      · injection har with h; omega
      · cases har
  have hnx : nx ≤ s.size := by omega
  have hw1 : IntKind.i64.wrap ((at_ : Int) + 1) = (nx : Int) := by rw [IntWalk.i64_in _ (by omega)]; omega
  have hw2 : IntKind.i64.wrap (((room + 1 : Nat) : Int) - 1) = (room : Int) := by rw [IntWalk.i64_in _ (by omega)]; omega
  have hpa := fun W => parts_any c _ rfl W
  rw [show arityV c = (n : Int) by unfold arityV; rw [har]] at hpa
  have hix := fun W => index_at hat W
  rw [hbc] at hix
  obtain ⟨ci, hci⟩ : ∃ ci : Int, (c.toNat : Int) = ci := ⟨_, rfl⟩
  simp only [hci] at hix hpa
  have g110 : (ci == 110) = false := beq_false_of_ne fun h => h110 ((opb hci 110).2 h)
  have g116 : (ci == 116) = false := beq_false_of_ne fun h => h116 ((opb hci 116).2 h)
  have g84 : (ci == 84) = false := beq_false_of_ne fun h => h84 ((opb hci 84).2 h)
  have HPA := Lib.hid hpa
  have HRD := Lib.hid hrd
  have HKF := Lib.hid hkf
  have HRR := Lib.hid hR
  have HBC := Lib.hid hbc
  have H110 := Lib.hid h110
  have H116 := Lib.hid h116
  have HTT := Lib.hid HT
  have g1 : decide ((s.size : Int) ≤ (at_ : Int)) = false := decide_eq_false (by omega)
  have g2 : (((room + 1 : Nat) : Int) == 0) = false := beq_false_of_ne (by omega)
  have g3 : decide ((n : Int) < 0) = false := decide_eq_false (by omega)
  obtain ⟨rm, hrm⟩ : ∃ rm : Int, ((room + 1 : Nat) : Int) = rm := ⟨_, rfl⟩
  rw [hrm] at g2 hw2 ⊢
  clear hpa hrd hkf hR hbc hrf HT hc hrm har hnxe hci h110 h116 h84
  go_enter Tryz.func59, Tryz.ntmps59
  go_wp2_with fail
  refine (HPA.out _).mono ?_
  rintro e w1 ⟨rfl, rfl⟩
  go_wp2_with fail
  have HZ0 := Lib.hid (show CutAt (((w.alloc (.cells #[.int .i64 0, .int .i64 0, .int .u64 0, .int .i64 0, .slice none 0 0] 95)).alloc (.cells #[.int .i64 (nx : Int)] 3)).alloc (.cells #[.int .i64 0, .int .i64 1, .int .u64 0, .int .i64 0, .slice (some ⟨w.heap.size + 1, 0, none⟩) 1 1] 95)) w.heap.size 0 0 0 0 (.slice none 0 0) from CutAt.fr (CutAt.fr (show CutAt (w.alloc (.cells #[.int .i64 0, .int .i64 0, .int .u64 0, .int .i64 0, .slice none 0 0] 95)) w.heap.size 0 0 0 0 (.slice none 0 0) from Go.heap_alloc_new w _) (Fr.below (F := []) ((Below.refl _ _).alloc (Nat.le_refl _) _)) (by simp)) (Fr.below (F := []) ((Below.refl _ _).alloc (Nat.le_refl _) _)) (by simp))
  have HC0 := Lib.hid (show CutAt (((w.alloc (.cells #[.int .i64 0, .int .i64 0, .int .u64 0, .int .i64 0, .slice none 0 0] 95)).alloc (.cells #[.int .i64 (nx : Int)] 3)).alloc (.cells #[.int .i64 0, .int .i64 1, .int .u64 0, .int .i64 0, .slice (some ⟨w.heap.size + 1, 0, none⟩) 1 1] 95)) (w.heap.size + 1 + 1) 0 1 0 0 (.slice (some ⟨w.heap.size + 1, 0, none⟩) 1 1) from by
    have h := Go.heap_alloc_new ((w.alloc (.cells #[.int .i64 0, .int .i64 0, .int .u64 0, .int .i64 0, .slice none 0 0] 95)).alloc (.cells #[.int .i64 (nx : Int)] 3)) (.cells #[.int .i64 0, .int .i64 1, .int .u64 0, .int .i64 0, .slice (some ⟨w.heap.size + 1, 0, none⟩) 1 1] 95)
    rw [show ((w.alloc (.cells #[.int .i64 0, .int .i64 0, .int .u64 0, .int .i64 0, .slice none 0 0] 95)).alloc (.cells #[.int .i64 (nx : Int)] 3)).heap.size = w.heap.size + 1 + 1 by simp] at h
    exact h)
  have HB0 := Lib.hid (show Below w.heap.size w (((w.alloc (.cells #[.int .i64 0, .int .i64 0, .int .u64 0, .int .i64 0, .slice none 0 0] 95)).alloc (.cells #[.int .i64 (nx : Int)] 3)).alloc (.cells #[.int .i64 0, .int .i64 1, .int .u64 0, .int .i64 0, .slice (some ⟨w.heap.size + 1, 0, none⟩) 1 1] 95)) from (((Below.refl _ _).alloc (Nat.le_refl _) _).alloc (by simp) _).alloc (by simp; omega) _)
  have HR0 := Lib.hid (show Row (((w.alloc (.cells #[.int .i64 0, .int .i64 0, .int .u64 0, .int .i64 0, .slice none 0 0] 95)).alloc (.cells #[.int .i64 (nx : Int)] 3)).alloc (.cells #[.int .i64 0, .int .i64 1, .int .u64 0, .int .i64 0, .slice (some ⟨w.heap.size + 1, 0, none⟩) 1 1] 95)) w.heap.size 3 (.slice (some ⟨w.heap.size + 1, 0, none⟩) 1 1) (ints [nx]) from by
    have h := Go.heap_alloc_new (w.alloc (.cells #[.int .i64 0, .int .i64 0, .int .u64 0, .int .i64 0, .slice none 0 0] 95)) (.cells #[.int .i64 (nx : Int)] 3)
    rw [show (w.alloc (.cells #[.int .i64 0, .int .i64 0, .int .u64 0, .int .i64 0, .slice none 0 0] 95)).heap.size = w.heap.size + 1 by simp] at h
    have h2 : Row ((w.alloc (.cells #[.int .i64 0, .int .i64 0, .int .u64 0, .int .i64 0, .slice none 0 0] 95)).alloc (.cells #[.int .i64 (nx : Int)] 3)) w.heap.size 3 (.slice (some ⟨w.heap.size + 1, 0, none⟩) 1 1) (ints [nx]) := Or.inr ⟨w.heap.size + 1, 0, 1, #[.int .i64 (nx : Int)], (0, 0), rfl, by omega, h, Free.none _, Nat.le_refl _, by decide, by simp, rfl⟩
    exact h2.alloc _)
  go_loopw [12, 16] (fun p i wr => ∃ (k nx' dp : Nat) (pre : List Nat) (v : Value), k ≤ n ∧ p = .int .i64 (nx' : Int) ∧ i = .int .i64 (k : Int) ∧ kidsL (rd s.data.toList room) (n - k) nx' dp (pre ++ [nx']) = R ∧ pre.length = k ∧ nx' ≤ s.size ∧ dp ≤ 1001 ∧ CutAt wr w.heap.size 0 0 0 0 (.slice none 0 0) ∧ CutAt wr (w.heap.size + 1 + 1) 0 dp 0 0 v ∧ Row wr w.heap.size 3 v (ints (pre ++ [nx'])) ∧ Below w.heap.size w wr) (fun _ i _ => n - (intOf i).toNat)
  case atStart => exact ⟨0, nx, 1, [], _, Nat.zero_le _, rfl, rfl, HRR.out, rfl, hnx, by omega, HZ0.out, HC0.out, HR0.out, HB0.out⟩
  case round =>
    obtain ⟨k, nx', dp, pre, v, hk, rfl, rfl, hrest, hpre, hnx', hdp, hz, hcut, hrow, hbel⟩ := hrel
    clear HZ0 HC0 HR0 HB0
    have hksl : (pre ++ [nx']).length = k + 1 := by rw [List.length_append, hpre]; rfl
    obtain ⟨Av, cv, hv, hcv, hcells⟩ := Row.shape hrow
    rw [show (ints (pre ++ [nx'])).length = (pre ++ [nx']).length by simp [ints]] at hv hcv
    subst hv
    have HZr := Lib.hid hz
    have HCr := Lib.hid hcut
    have HRr := Lib.hid hrow
    have HBr := Lib.hid hbel
    have HCells := Lib.hid hcells
    by_cases hlt : k < n
    · have hT := HTT.out nx' wr hnx'
      obtain ⟨m, hm⟩ : ∃ m, n - k = m + 1 := ⟨n - k - 1, by omega⟩
      unfold RReadP at hT
      cases hq : rd s.data.toList room nx' with
      | none =>
        have hRn : R = none := by rw [← hrest, hm]; exact kidsL_stop hq
        have HN := Lib.hid (show rd s.data.toList (room + 1) at_ = none by rw [HRD.out, hRn]; rfl)
        rw [hq] at hT
        simp only at hT
        unfold cutV at hT
        have HT1 := Lib.hid hT
        clear hT hrest hz hcut hrow hbel hcells hq hm
        go_wp2_with fail
        refine HT1.out.mono ?_
        rintro e w1 ⟨d', n', f', A', l', c', rfl, hb1⟩
        have HZ9 := Lib.hid (show CutAt (w1.alloc (.cells #[.int .i64 (-1), .int .i64 d', .int .u64 n', .int .i64 f', .slice A' l' c'] 95)) w.heap.size 0 0 0 0 (.slice none 0 0) from (HZr.out.fr (Fr.below (F := []) hb1) (by simp)).fr (Fr.below (F := []) ((Below.refl _ _).alloc (Nat.le_refl _) _)) (by simp))
        have HB9 := Lib.hid (show Below w.heap.size w (w1.alloc (.cells #[.int .i64 (-1), .int .i64 d', .int .u64 n', .int .i64 f', .slice A' l' c'] 95)) from (HBr.out.trans (hb1.mono HBr.out.size)).alloc (Nat.le_trans HBr.out.size hb1.size) _)
        clear hb1
        go_wp2_with fail
        refine (none_any _).mono ?_
        rintro e w2 ⟨rfl, hb2⟩
        unfold cutV
        have hz2 : CutAt w2 w.heap.size 0 0 0 0 (.slice none 0 0) := (HZ9.out).fr (Fr.below (F := []) hb2) (by simp)
        have hB2 := HB9.out.trans (hb2.mono HB9.out.size)
        obtain ⟨z0, z1, z2, z3, z4, zf⟩ := hz2.cells
        have HZ2 := Lib.hid hz2
        have HB2 := Lib.hid hB2
        clear hz2 hB2 hb2
        go_wp2_with fail
        have hA := put5_at HZ2.out (.int .i64 (-1)) (.int .i64 0) (.int .u64 0) (.int .i64 0) (.slice none 0 0)
        have hF := HB2.out.trans (put5_low w2 w.heap.size (.int .i64 (-1)) (.int .i64 0) (.int .u64 0) (.int .i64 0) (.slice none 0 0) HB2.out.size (Nat.le_refl _))
        change bodyPost _ _ _ _ _ (put5 w2 w.heap.size (.int .i64 (-1)) (.int .i64 0) (.int .u64 0) (.int .i64 0) (.slice none 0 0))
        generalize put5 w2 w.heap.size (.int .i64 (-1)) (.int .i64 0) (.int .u64 0) (.int .i64 0) (.slice none 0 0) = Wf at hA hF ⊢
        obtain ⟨r0, r1, r2, r3, r4, -⟩ := CutAt.cells (show CutAt Wf w.heap.size (-1) 0 0 0 (.slice none 0 0) from hA)
        refine bodyPost_ret (v := cutV (-1) 0 0 0 (.slice none 0 0)) (by simp [results, Tryz.results59, go_sem, r0, r1, r2, r3, r4, cutV]) rfl ?_
        unfold RReadP
        rw [HN.out]
        exact ⟨0, 0, 0, none, 0, 0, rfl, hF⟩
      | some x =>
        have hran := rd_range _ _ hq
        have hx1 : (0 : Int) ≤ (x.fin : Int) := by omega
        have hge : decide ((x.fin : Int) < 0) = false := decide_eq_false (by omega)
        have hxs : x.fin ≤ s.size := hran.hi
        have hxd : x.deep ≤ room := hran.d2
        have HRN := Lib.hid (show kidsL (rd s.data.toList room) (n - (k + 1)) x.fin (max dp (x.deep + 1)) ((pre ++ [nx']) ++ [x.fin]) = R by rw [← hrest, show n - k = (n - (k + 1)) + 1 by omega]; exact (kidsL_next hq).symm)
        rw [hq] at hT
        simp only at hT
        unfold cutV at hT
        have HT1 := Lib.hid hT
        obtain ⟨d1, hd1⟩ : ∃ d1 : Nat, x.deep + 1 = d1 := ⟨_, rfl⟩
        have hdw : IntKind.i64.wrap ((x.deep : Int) + 1) = (d1 : Int) := by rw [IntWalk.i64_in _ (by omega)]; omega
        obtain ⟨mx, hmx⟩ : ∃ mx : Nat, max dp d1 = mx := ⟨_, rfl⟩
        have hmax : max (dp : Int) (d1 : Int) = (mx : Int) := by omega
        rw [hd1, hmx] at HRN
        have hmx1 : mx ≤ 1001 := by omega
        clear hT hrest hz hcut hrow hbel hcells hq hm hran hd1 hmx
        go_wp2_with fail
        refine HT1.out.mono ?_
        rintro e w1 ⟨N, F, Ax, capx, rfl, -, -, -, hb1⟩
        have hb2 : Below w1.heap.size w1 (w1.alloc (.cells #[.int .i64 (x.fin : Int), .int .i64 (x.deep : Int), .int .u64 N, .int .i64 F, .slice Ax x.kids.length capx] 95)) := (Below.refl _ _).alloc (Nat.le_refl _) _
        have hcx : CutAt (w1.alloc (.cells #[.int .i64 (x.fin : Int), .int .i64 (x.deep : Int), .int .u64 N, .int .i64 F, .slice Ax x.kids.length capx] 95)) w1.heap.size x.fin x.deep N F (.slice Ax x.kids.length capx) := Go.heap_alloc_new w1 _
        have hc2 := (HCr.out.fr (Fr.below (F := []) hb1) (by simp)).fr (Fr.below (F := []) hb2) (by simp)
        have hz2 := (HZr.out.fr (Fr.below (F := []) hb1) (by simp)).fr (Fr.below (F := []) hb2) (by simp)
        have hr2 := Row.below (HRr.out.below hb1) hb2
        have hB2 := (HBr.out.trans (hb1.mono HBr.out.size)).trans (hb2.mono (Nat.le_trans HBr.out.size hb1.size))
        have hne : w1.heap.size ≠ w.heap.size + 1 + 1 := fun e => by have := lt_of_block (HCr.out.fr (Fr.below (F := []) hb1) (by simp)); omega
        have hne2 : w.heap.size + 1 + 1 ≠ w1.heap.size := Ne.symm hne
        obtain ⟨c0, c1, c2, c3, c4, cf⟩ := hc2.cells
        obtain ⟨x0, x1, -, -, -, -⟩ := hcx.cells
        have HC2 := Lib.hid hc2
        have HX2 := Lib.hid hcx
        have HZ2 := Lib.hid hz2
        have HR2 := Lib.hid hr2
        have HB2 := Lib.hid hB2
        clear hc2 hz2 hr2 hB2 hcx hb2 hb1
        have hlen := hksl
        have hput : Fr [w.heap.size + 1 + 1] (w1.alloc (.cells #[.int .i64 (x.fin : Int), .int .i64 (x.deep : Int), .int .u64 N, .int .i64 F, .slice Ax x.kids.length capx] 95)) ((w1.alloc (.cells #[.int .i64 (x.fin : Int), .int .i64 (x.deep : Int), .int .u64 N, .int .i64 F, .slice Ax x.kids.length capx] 95)).setCell ⟨w.heap.size + 1 + 1, 1, none⟩ (.int .i64 (mx : Int))) := Fr.put0 _ _ 1 _ (by simp)
        have hz3 : CutAt ((w1.alloc (.cells #[.int .i64 (x.fin : Int), .int .i64 (x.deep : Int), .int .u64 N, .int .i64 F, .slice Ax x.kids.length capx] 95)).setCell ⟨w.heap.size + 1 + 1, 1, none⟩ (.int .i64 (mx : Int))) w.heap.size 0 0 0 0 (.slice none 0 0) := HZ2.out.fr hput (by simp; omega)
        have hc3 : CutAt ((w1.alloc (.cells #[.int .i64 (x.fin : Int), .int .i64 (x.deep : Int), .int .u64 N, .int .i64 F, .slice Ax x.kids.length capx] 95)).setCell ⟨w.heap.size + 1 + 1, 1, none⟩ (.int .i64 (mx : Int))) (w.heap.size + 1 + 1) 0 mx 0 0 (.slice Av (pre ++ [nx']).length cv) := setCell_cells HC2.out 1 _
        have hr3 := row_fr HR2.out hput (fun g hg => by simpa using row_ne_cut HR2.out (by decide) HC2.out g hg)
        have hB3 := HB2.out.trans (hput.toBelowOf (B := w.heap.size) HB2.out.size (fun i hi => by simp at hi; omega))
        have HZ3 := Lib.hid hz3
        have HC3 := Lib.hid hc3
        have HR3 := Lib.hid hr3
        have HB3 := Lib.hid hB3
        rw [hksl] at HC3 HR3
        clear hz3 hc3 hr3 hB3 hput hlen
        have hsz3 : ((w1.alloc (.cells #[.int .i64 (x.fin : Int), .int .i64 (x.deep : Int), .int .u64 N, .int .i64 F, .slice Ax x.kids.length capx] 95)).setCell ⟨w.heap.size + 1 + 1, 1, none⟩ (.int .i64 (mx : Int))).heap.size = w1.heap.size + 1 := by simp
        have hil : (ints (pre ++ [nx'])).length = k + 1 := by rw [← hksl]; simp [ints]
        have hil2 : (ints (pre ++ [nx']) ++ [Value.int .i64 (x.fin : Int)]).length = k + 1 + 1 := by rw [List.length_append, hil]; rfl
        go_wp2_with (at_builtin
                     go_loud (refine wpList_row1 slInt rfl (.tmp 131) (.tmp 133) rfl w.heap.size (.slice Av (k + 1) cv) (ints (pre ++ [nx'])) (by rfl) HR3.out (.int .i64 (x.fin : Int)) (by rw [hsz3]; rfl) (by rfl) (by rw [hil]; omega) (by rw [hil]; omega) HB3.out.size ?_)
                     intro v6 w6 hr6 hg6 hb6 hat6
                     have hc6 : CutAt w6 (w.heap.size + 1 + 1) 0 mx 0 0 (.slice Av (k + 1) cv) := grown_keep hg6 HC3.out (fun e => row_ne_cut HR3.out (by decide) HC3.out _ e.symm rfl)
                     have hz6 : CutAt w6 w.heap.size 0 0 0 0 (.slice none 0 0) := grown_keep hg6 HZ3.out (fun e => row_ne_cut HR3.out (by decide) HZ3.out _ e.symm rfl)
                     have hB6 := HB3.out.trans hb6
                     obtain ⟨A6, c6, rfl, -, -⟩ := Row.shape hr6
                     rw [hil2] at hr6 ⊢
                     obtain ⟨e0, e1, e2, e3, e4, ef⟩ := hc6.cells
                     have HC6 := Lib.hid hc6
                     have HZ6 := Lib.hid hz6
                     have HR6 := Lib.hid hr6
                     have HB6 := Lib.hid hB6
                     clear hc6 hz6 hr6 hB6 hg6 hb6 hat6 c0 c1 c2 c3 c4 cf x0 x1)
        go_roundw
        case rel =>
          have hput : Fr [w.heap.size + 1 + 1] w6 (w6.setCell ⟨w.heap.size + 1 + 1, 4, none⟩ (.slice A6 (k + 1 + 1) c6)) := Fr.put0 _ _ 4 _ (by simp)
          refine ⟨k + 1, x.fin, mx, pre ++ [nx'], .slice A6 (k + 1 + 1) c6, by omega, rfl, by go_num, HRN.out, hksl, hxs, hmx1, HZ6.out.fr hput (by simp; omega), setCell_cells HC6.out 4 _, ?_, HB6.out.trans (hput.toBelowOf (B := w.heap.size) HB6.out.size (fun i hi => by simp at hi; omega))⟩
          have hro := row_fr HR6.out hput (fun g hg => by simpa using row_ne_cut HR6.out (by decide) HC6.out g hg)
          have hie : ints (pre ++ [nx'] ++ [x.fin]) = ints (pre ++ [nx']) ++ [Value.int .i64 (x.fin : Int)] := by simp [ints]
          rw [hie]
          exact hro
        case measure => simp [intOf]; omega
    · have hkn : k = n := by omega
      subst hkn
      rw [Nat.sub_self] at hrest
      have hRs : R = some (nx', dp, pre ++ [nx']) := by rw [← hrest]; rfl
      obtain ⟨-, -, -, -, -, kf, kf1, kf2⟩ := HKF.out ⟨nx', dp, 0, 0, pre ++ [nx']⟩ (by rw [hRs]; rfl)
      have HRD2 := Lib.hid (show rd s.data.toList (room + 1) at_ = if fitsB s.data.toList c (pre ++ [nx']) then some ⟨nx', dp, 0, 0, pre ++ [nx']⟩ else none by rw [HRD.out, hRs]; rfl)
      have hput : Fr [w.heap.size + 1 + 1] wr (wr.setCell ⟨w.heap.size + 1 + 1, 0, none⟩ (.int .i64 (nx' : Int))) := Fr.put0 _ _ 0 _ (by simp)
      have hcs : CutAt (wr.setCell ⟨w.heap.size + 1 + 1, 0, none⟩ (.int .i64 (nx' : Int))) (w.heap.size + 1 + 1) nx' dp 0 0 (.slice Av (pre ++ [nx']).length cv) := setCell_cells hcut 0 _
      have hzs := hz.fr hput (by simp; omega)
      have hrs := row_fr hrow hput (fun g hg => by simpa using row_ne_cut hrow (by decide) hcut g hg)
      have hBs := hbel.trans (hput.toBelowOf (B := w.heap.size) hbel.size (fun i hi => by simp at hi; omega))
      have HFI := Lib.hid (rfits_any s c at_ (pre ++ [nx']) nx' dp 0 0 Av cv (wr.setCell ⟨w.heap.size + 1 + 1, 0, none⟩ (.int .i64 (nx' : Int))) HBC.out hat hs (by rw [hksl]; omega) (row_cells hrs) (fun i hi => kf i (by show i < (pre ++ [nx']).length - 1; omega)) (fun h => by have := kf1 h; show 2 ≤ (pre ++ [nx']).length; have h2 : 1 ≤ (pre ++ [nx']).length - 1 := this; omega) (fun h => by have := kf2 h; show 3 ≤ (pre ++ [nx']).length; have h2 : 2 ≤ (pre ++ [nx']).length - 1 := this; omega))
      unfold cutV at HFI
      have HCS := Lib.hid hcs
      have HZS := Lib.hid hzs
      have HRS := Lib.hid hrs
      have HBS := Lib.hid hBs
      rw [hksl] at HCS HRS HFI
      obtain ⟨c0, c1, c2, c3, c4, cf⟩ := hcut.cells
      clear hput hcs hzs hrs hBs hrest hRs kf kf1 kf2 hz hcut hrow hbel hcells
      go_wp2_with fail
      refine HFI.out.mono ?_
      rintro e w1 ⟨rfl, hb1⟩
      have hc1 := HCS.out.fr (Fr.below (F := []) hb1) (by simp)
      have hz1 := HZS.out.fr (Fr.below (F := []) hb1) (by simp)
      have hr1 := HRS.out.below hb1
      have hB1 := HBS.out.trans (hb1.mono HBS.out.size)
      clear c0 c1 c2 c3 c4 cf
      obtain ⟨c0, c1, c2, c3, c4, cf⟩ := hc1.cells
      obtain ⟨y0, y1, y2, y3, y4, yf⟩ := hz1.cells
      have HZ9 := Lib.hid hz1
      have HB9 := Lib.hid hB1
      have HR9 := Lib.hid hr1
      clear hc1 hz1 hr1 hB1 hb1
      cases hfb : fitsB s.data.toList c (pre ++ [nx']) with
      | false =>
        have HN := Lib.hid (show rd s.data.toList (room + 1) at_ = none by rw [HRD2.out, hfb]; rfl)
        clear hfb y0 y1 y2 y3 y4 yf
        go_wp2_with fail
        refine (none_any _).mono ?_
        rintro e w2 ⟨rfl, hb2⟩
        unfold cutV
        have hz2 : CutAt w2 w.heap.size 0 0 0 0 (.slice none 0 0) := (HZ9.out).fr (Fr.below (F := []) hb2) (by simp)
        have hB2 := HB9.out.trans (hb2.mono HB9.out.size)
        obtain ⟨z0, z1, z2, z3, z4, zf⟩ := hz2.cells
        have HZ2 := Lib.hid hz2
        have HB2 := Lib.hid hB2
        clear hz2 hB2 hb2
        go_wp2_with fail
        have hA := put5_at HZ2.out (.int .i64 (-1)) (.int .i64 0) (.int .u64 0) (.int .i64 0) (.slice none 0 0)
        have hF := HB2.out.trans (put5_low w2 w.heap.size (.int .i64 (-1)) (.int .i64 0) (.int .u64 0) (.int .i64 0) (.slice none 0 0) HB2.out.size (Nat.le_refl _))
        change bodyPost _ _ _ _ _ (put5 w2 w.heap.size (.int .i64 (-1)) (.int .i64 0) (.int .u64 0) (.int .i64 0) (.slice none 0 0))
        generalize put5 w2 w.heap.size (.int .i64 (-1)) (.int .i64 0) (.int .u64 0) (.int .i64 0) (.slice none 0 0) = Wf at hA hF ⊢
        obtain ⟨r0, r1, r2, r3, r4, -⟩ := CutAt.cells (show CutAt Wf w.heap.size (-1) 0 0 0 (.slice none 0 0) from hA)
        refine bodyPost_ret (v := cutV (-1) 0 0 0 (.slice none 0 0)) (by simp [results, Tryz.results59, go_sem, r0, r1, r2, r3, r4, cutV]) rfl ?_
        unfold RReadP
        rw [HN.out]
        exact ⟨0, 0, 0, none, 0, 0, rfl, hF⟩
      | true =>
        have HS := Lib.hid (show rd s.data.toList (room + 1) at_ = some ⟨nx', dp, 0, 0, pre ++ [nx']⟩ by rw [HRD2.out, hfb]; rfl)
        clear hfb
        go_wp2_with fail
        have hA := put5_at HZ9.out (.int .i64 (nx' : Int)) (.int .i64 (dp : Int)) (.int .u64 0) (.int .i64 0) (.slice Av (k + 1) cv)
        have hF := HB9.out.trans (put5_low w1 w.heap.size (.int .i64 (nx' : Int)) (.int .i64 (dp : Int)) (.int .u64 0) (.int .i64 0) (.slice Av (k + 1) cv) HB9.out.size (Nat.le_refl _))
        have hro := row_fr HR9.out (put5_fr w1 w.heap.size (.int .i64 (nx' : Int)) (.int .i64 (dp : Int)) (.int .u64 0) (.int .i64 0) (.slice Av (k + 1) cv) (List.mem_singleton.2 rfl)) (fun g hg => by simpa using row_ne_cut HR9.out (by decide) HZ9.out g hg)
        change bodyPost _ _ _ _ _ (put5 w1 w.heap.size (.int .i64 (nx' : Int)) (.int .i64 (dp : Int)) (.int .u64 0) (.int .i64 0) (.slice Av (k + 1) cv))
        generalize put5 w1 w.heap.size (.int .i64 (nx' : Int)) (.int .i64 (dp : Int)) (.int .u64 0) (.int .i64 0) (.slice Av (k + 1) cv) = Wf at hA hF hro ⊢
        obtain ⟨r0, r1, r2, r3, r4, -⟩ := CutAt.cells (show CutAt Wf w.heap.size nx' dp 0 0 (.slice Av (k + 1) cv) from hA)
        refine bodyPost_ret (v := cutV nx' dp 0 0 (.slice Av (k + 1) cv)) (by simp [results, Tryz.results59, go_sem, r0, r1, r2, r3, r4, cutV]) rfl ?_
        unfold RReadP
        rw [HS.out]
        exact ⟨0, 0, Av, cv, by show _ = Ending.returned (cutV nx' dp 0 0 (.slice Av (pre ++ [nx']).length cv)); rw [hksl], fun h => absurd (HBC.out.symm.trans h) H110.out, fun h => absurd (HBC.out.symm.trans h) H116.out, row_cells hro, hF⟩
set_option maxRecDepth 100000 in
set_option maxHeartbeats 8000000 in
theorem rread_bad (s : ByteArray) (room at_ : Nat) (c : UInt8) (w : World) (hat : at_ < s.size) (hs : s.size ≤ 1000000) (hbc : byte s.data.toList at_ = c) (h110 : c ≠ 110) (h116 : c ≠ 116) (h84 : c ≠ 84) (har : arity c = none) :
    Calls Tryz.prog 59 #[.string s, .int .i64 at_, .int .i64 ((room + 1 : Nat) : Int)] w (RReadP s (room + 1) at_ w) := by
  have hc : s.data.toList[at_]? = some c := by rw [← hbc]; unfold byte; rw [List.getD_eq_getElem?_getD, List.getElem?_eq_getElem (show at_ < s.data.toList.length from hat)]; rfl
  have hrd := rd_rdF (room := room) hc
  have hrf : rdF s.data.toList room at_ c = none := by
    unfold rdF head
    rw [if_neg h110, if_neg h116, if_neg h84, har]
    rfl
  rw [hrf] at hrd
  have HN := Lib.hid (show rd s.data.toList (room + 1) at_ = none from hrd)
  have hpa := fun W => parts_any c _ rfl W
  rw [show arityV c = -1 by unfold arityV; rw [har]] at hpa
  have hix := fun W => index_at hat W
  rw [hbc] at hix
  obtain ⟨ci, hci⟩ : ∃ ci : Int, (c.toNat : Int) = ci := ⟨_, rfl⟩
  simp only [hci] at hix hpa
  have g110 : (ci == 110) = false := beq_false_of_ne fun h => h110 ((opb hci 110).2 h)
  have g116 : (ci == 116) = false := beq_false_of_ne fun h => h116 ((opb hci 116).2 h)
  have g84 : (ci == 84) = false := beq_false_of_ne fun h => h84 ((opb hci 84).2 h)
  have HPA := Lib.hid hpa
  have HZ9 := Lib.hid (show CutAt (w.alloc (.cells #[.int .i64 0, .int .i64 0, .int .u64 0, .int .i64 0, .slice none 0 0] 95)) w.heap.size 0 0 0 0 (.slice none 0 0) from Go.heap_alloc_new w _)
  have HB9 := Lib.hid (show Below w.heap.size w (w.alloc (.cells #[.int .i64 0, .int .i64 0, .int .u64 0, .int .i64 0, .slice none 0 0] 95)) from (Below.refl _ _).alloc (Nat.le_refl _) _)
  have g1 : decide ((s.size : Int) ≤ (at_ : Int)) = false := decide_eq_false (by omega)
  have g2 : (((room + 1 : Nat) : Int) == 0) = false := beq_false_of_ne (by omega)
  obtain ⟨rm, hrm⟩ : ∃ rm : Int, ((room + 1 : Nat) : Int) = rm := ⟨_, rfl⟩
  rw [hrm] at g2 ⊢
  clear hpa hrd hbc hrf hc hrm har hci h110 h116 h84
  go_enter Tryz.func59, Tryz.ntmps59
  go_wp2_with fail
  refine (HPA.out _).mono ?_
  rintro e w1 ⟨rfl, rfl⟩
  go_wp2_with fail
  refine (none_any _).mono ?_
  rintro e w2 ⟨rfl, hb2⟩
  unfold cutV
  have hz2 : CutAt w2 w.heap.size 0 0 0 0 (.slice none 0 0) := (HZ9.out).fr (Fr.below (F := []) hb2) (by simp)
  have hB2 := HB9.out.trans (hb2.mono HB9.out.size)
  obtain ⟨z0, z1, z2, z3, z4, zf⟩ := hz2.cells
  have HZ2 := Lib.hid hz2
  have HB2 := Lib.hid hB2
  clear hz2 hB2 hb2
  go_wp2_with fail
  have hA := put5_at HZ2.out (.int .i64 (-1)) (.int .i64 0) (.int .u64 0) (.int .i64 0) (.slice none 0 0)
  have hF := HB2.out.trans (put5_low w2 w.heap.size (.int .i64 (-1)) (.int .i64 0) (.int .u64 0) (.int .i64 0) (.slice none 0 0) HB2.out.size (Nat.le_refl _))
  change bodyPost _ _ _ _ _ (put5 w2 w.heap.size (.int .i64 (-1)) (.int .i64 0) (.int .u64 0) (.int .i64 0) (.slice none 0 0))
  generalize put5 w2 w.heap.size (.int .i64 (-1)) (.int .i64 0) (.int .u64 0) (.int .i64 0) (.slice none 0 0) = Wf at hA hF ⊢
  obtain ⟨r0, r1, r2, r3, r4, -⟩ := CutAt.cells (show CutAt Wf w.heap.size (-1) 0 0 0 (.slice none 0 0) from hA)
  refine bodyPost_ret (v := cutV (-1) 0 0 0 (.slice none 0 0)) (by simp [results, Tryz.results59, go_sem, r0, r1, r2, r3, r4, cutV]) rfl ?_
  unfold RReadP
  rw [HN.out]
  exact ⟨0, 0, 0, none, 0, 0, rfl, hF⟩
set_option maxRecDepth 100000 in
set_option maxHeartbeats 8000000 in
theorem rread_tuple (s : ByteArray) (room at_ : Nat) (w : World) (hs : s.size ≤ 1000000) (hat : at_ < s.size) (hroom : room ≤ 1000) (hbc : byte s.data.toList at_ = 84)
    (HT : ∀ (at_ : Nat) (w : World), at_ ≤ s.size → Calls Tryz.prog 59 #[.string s, .int .i64 at_, .int .i64 room] w (RReadP s room at_ w)) :
    Calls Tryz.prog 59 #[.string s, .int .i64 at_, .int .i64 ((room + 1 : Nat) : Int)] w (RReadP s (room + 1) at_ w) := by
  have hc : s.data.toList[at_]? = some 84 := by rw [← hbc]; unfold byte; rw [List.getD_eq_getElem?_getD, List.getElem?_eq_getElem (show at_ < s.data.toList.length from hat)]; rfl
  have hrd := rd_rdF (room := room) hc
  have hkf := fun x (h : rdF s.data.toList room at_ 84 = some x) => rdF_kids h (show at_ < s.data.toList.length from hat)
  have hrf : rdF s.data.toList room at_ 84 = match (match numL 58 (s.data.toList.drop (at_ + 1)) with | none => none | some (v, k) => if v ≤ 32 then some (v, at_ + 1 + k + 1) else none) with | none => none | some (n, nx) => cutOf (kidsL (rd s.data.toList room) n nx 1 [nx]) := by
    unfold rdF head
    rw [if_neg (by decide), if_neg (by decide), if_pos rfl]
    rfl
  have hNM := Lib.hid (fun W => rnum_any s (at_ + 1) 58 58 rfl W (by omega) hs rfl)
  have hsome := fun v k => numL_some (c := 58) (l := s.data.toList.drop (at_ + 1)) (v := v) (k := k)
  have hlen : (s.data.toList.drop (at_ + 1)).length = s.size - (at_ + 1) := by rw [List.length_drop]; rfl
  rw [hlen] at hsome
  obtain ⟨NL, hNL⟩ : ∃ NL, numL 58 (s.data.toList.drop (at_ + 1)) = NL := ⟨_, rfl⟩
  rw [hNL] at hrf hNM
  simp only [hNL] at hsome
  obtain ⟨a1, ha1⟩ : ∃ a1, at_ + 1 = a1 := ⟨_, rfl⟩
  rw [ha1] at hNM hrf hsome
  have hw1 : IntKind.i64.wrap ((at_ : Int) + 1) = (a1 : Int) := by rw [IntWalk.i64_in _ (by omega)]; omega
  have hw2 : IntKind.i64.wrap (((room + 1 : Nat) : Int) - 1) = (room : Int) := by rw [IntWalk.i64_in _ (by omega)]; omega
  have hpa := fun W => parts_any 84 _ rfl W
  rw [show arityV 84 = -1 from rfl] at hpa
  have hix := fun W => index_at hat W
  rw [hbc] at hix
  have HPA := Lib.hid hpa
  have HTT := Lib.hid HT
  have g1 : decide ((s.size : Int) ≤ (at_ : Int)) = false := decide_eq_false (by omega)
  have g2 : (((room + 1 : Nat) : Int) == 0) = false := beq_false_of_ne (by omega)
  obtain ⟨rm, hrm⟩ : ∃ rm : Int, ((room + 1 : Nat) : Int) = rm := ⟨_, rfl⟩
  rw [hrm] at g2 hw2 ⊢
  clear hpa HT hc hrm hNL hlen
  have HZ9 := Lib.hid (show CutAt (w.alloc (.cells #[.int .i64 0, .int .i64 0, .int .u64 0, .int .i64 0, .slice none 0 0] 95)) w.heap.size 0 0 0 0 (.slice none 0 0) from Go.heap_alloc_new w _)
  have HB9 := Lib.hid (show Below w.heap.size w (w.alloc (.cells #[.int .i64 0, .int .i64 0, .int .u64 0, .int .i64 0, .slice none 0 0] 95)) from (Below.refl _ _).alloc (Nat.le_refl _) _)
  cases NL with
  | none =>
    have HN := Lib.hid (show rd s.data.toList (room + 1) at_ = none by rw [hrd, hrf])
    clear hrd hrf hkf hsome hbc
    go_enter Tryz.func59, Tryz.ntmps59
    go_wp2_with fail
    refine (HPA.out _).mono ?_
    rintro e w1 ⟨rfl, rfl⟩
    go_wp2_with fail
    refine (hNM.out _).mono ?_
    rintro e w1 ⟨rfl, rfl⟩
    unfold rnumV
    go_wp2_with fail
    refine (none_any _).mono ?_
    rintro e w2 ⟨rfl, hb2⟩
    unfold cutV
    have hz2 : CutAt w2 w.heap.size 0 0 0 0 (.slice none 0 0) := (HZ9.out).fr (Fr.below (F := []) hb2) (by simp)
    have hB2 := HB9.out.trans (hb2.mono HB9.out.size)
    obtain ⟨z0, z1, z2, z3, z4, zf⟩ := hz2.cells
    have HZ2 := Lib.hid hz2
    have HB2 := Lib.hid hB2
    clear hz2 hB2 hb2
    go_wp2_with fail
    have hA := put5_at HZ2.out (.int .i64 (-1)) (.int .i64 0) (.int .u64 0) (.int .i64 0) (.slice none 0 0)
    have hF := HB2.out.trans (put5_low w2 w.heap.size (.int .i64 (-1)) (.int .i64 0) (.int .u64 0) (.int .i64 0) (.slice none 0 0) HB2.out.size (Nat.le_refl _))
    change bodyPost _ _ _ _ _ (put5 w2 w.heap.size (.int .i64 (-1)) (.int .i64 0) (.int .u64 0) (.int .i64 0) (.slice none 0 0))
    generalize put5 w2 w.heap.size (.int .i64 (-1)) (.int .i64 0) (.int .u64 0) (.int .i64 0) (.slice none 0 0) = Wf at hA hF ⊢
    obtain ⟨r0, r1, r2, r3, r4, -⟩ := CutAt.cells (show CutAt Wf w.heap.size (-1) 0 0 0 (.slice none 0 0) from hA)
    refine bodyPost_ret (v := cutV (-1) 0 0 0 (.slice none 0 0)) (by simp [results, Tryz.results59, go_sem, r0, r1, r2, r3, r4, cutV]) rfl ?_
    unfold RReadP
    rw [HN.out]
    exact ⟨0, 0, 0, none, 0, 0, rfl, hF⟩
  | some y =>
    obtain ⟨n, k⟩ := y
    obtain ⟨hv, hk1, hk2⟩ := hsome n k rfl
    obtain ⟨nx, hnxe⟩ : ∃ nx, a1 + k + 1 = nx := ⟨_, rfl⟩
    have hnx : nx ≤ s.size := by omega
    have hNM2 : ∀ W, Calls Tryz.prog 77 #[.string s, .int .i64 (a1 : Int), .int .u8 58] W fun e w' => e = .returned (.tuple #[.int .u64 (n : Int), .int .i64 (nx : Int)]) ∧ w' = W := by
      rw [← hnxe]; exact hNM.out
    have HNM := Lib.hid hNM2
    have gx : decide ((nx : Int) < 0) = false := decide_eq_false (by omega)
    clear hNM hNM2 hsome
    by_cases h32 : 32 < n
    · have HN := Lib.hid (show rd s.data.toList (room + 1) at_ = none by rw [hrd, hrf]; simp only; rw [if_neg (by omega)])
      have g32 : decide ((32 : Int) < (n : Int)) = true := decide_eq_true (by omega)
      clear hrd hrf hkf hbc hk2 hnxe
      go_enter Tryz.func59, Tryz.ntmps59
      go_wp2_with fail
      refine (HPA.out _).mono ?_
      rintro e w1 ⟨rfl, rfl⟩
      go_wp2_with fail
      refine (HNM.out _).mono ?_
      rintro e w1 ⟨rfl, rfl⟩
      go_wp2_with fail
      refine (none_any _).mono ?_
      rintro e w2 ⟨rfl, hb2⟩
      unfold cutV
      have hz2 : CutAt w2 w.heap.size 0 0 0 0 (.slice none 0 0) := (HZ9.out).fr (Fr.below (F := []) hb2) (by simp)
      have hB2 := HB9.out.trans (hb2.mono HB9.out.size)
      obtain ⟨z0, z1, z2, z3, z4, zf⟩ := hz2.cells
      have HZ2 := Lib.hid hz2
      have HB2 := Lib.hid hB2
      clear hz2 hB2 hb2
      go_wp2_with fail
      have hA := put5_at HZ2.out (.int .i64 (-1)) (.int .i64 0) (.int .u64 0) (.int .i64 0) (.slice none 0 0)
      have hF := HB2.out.trans (put5_low w2 w.heap.size (.int .i64 (-1)) (.int .i64 0) (.int .u64 0) (.int .i64 0) (.slice none 0 0) HB2.out.size (Nat.le_refl _))
      change bodyPost _ _ _ _ _ (put5 w2 w.heap.size (.int .i64 (-1)) (.int .i64 0) (.int .u64 0) (.int .i64 0) (.slice none 0 0))
      generalize put5 w2 w.heap.size (.int .i64 (-1)) (.int .i64 0) (.int .u64 0) (.int .i64 0) (.slice none 0 0) = Wf at hA hF ⊢
      obtain ⟨r0, r1, r2, r3, r4, -⟩ := CutAt.cells (show CutAt Wf w.heap.size (-1) 0 0 0 (.slice none 0 0) from hA)
      refine bodyPost_ret (v := cutV (-1) 0 0 0 (.slice none 0 0)) (by simp [results, Tryz.results59, go_sem, r0, r1, r2, r3, r4, cutV]) rfl ?_
      unfold RReadP
      rw [HN.out]
      exact ⟨0, 0, 0, none, 0, 0, rfl, hF⟩
    · have g32 : decide ((32 : Int) < (n : Int)) = false := decide_eq_false (by omega)
      have g3 : decide ((n : Int) < 0) = false := decide_eq_false (by omega)
      simp only at hrf
      rw [if_pos (by omega), show a1 + k + 1 = nx from hnxe] at hrf
      simp only at hrf
      obtain ⟨R, hR⟩ : ∃ R, kidsL (rd s.data.toList room) n nx 1 [nx] = R := ⟨_, rfl⟩
      rw [hR] at hrf
      rw [hrf] at hrd
      simp only [hrf] at hkf
      obtain ⟨c, hc84⟩ : ∃ c : UInt8, c = 84 := ⟨_, rfl⟩
      rw [← hc84] at hrd hkf hbc
      have H110 := Lib.hid (show c ≠ 110 by rw [hc84]; decide)
      have H116 := Lib.hid (show c ≠ 116 by rw [hc84]; decide)
      have hn32 : n ≤ 32 := by omega
      have HRD := Lib.hid hrd
      have HKF := Lib.hid hkf
      have HRR := Lib.hid hR
      have HBC := Lib.hid hbc
      clear hrd hkf hR hbc hrf hnxe hc84 hk2 HZ9 HB9
      go_enter Tryz.func59, Tryz.ntmps59
      go_wp2_with fail
      refine (HPA.out _).mono ?_
      rintro e w1 ⟨rfl, rfl⟩
      go_wp2_with fail
      refine (HNM.out _).mono ?_
      rintro e w1 ⟨rfl, rfl⟩
      go_wp2_with fail
      have HZ0 := Lib.hid (show CutAt (((w.alloc (.cells #[.int .i64 0, .int .i64 0, .int .u64 0, .int .i64 0, .slice none 0 0] 95)).alloc (.cells #[.int .i64 (nx : Int)] 3)).alloc (.cells #[.int .i64 0, .int .i64 1, .int .u64 0, .int .i64 0, .slice (some ⟨w.heap.size + 1, 0, none⟩) 1 1] 95)) w.heap.size 0 0 0 0 (.slice none 0 0) from CutAt.fr (CutAt.fr (show CutAt (w.alloc (.cells #[.int .i64 0, .int .i64 0, .int .u64 0, .int .i64 0, .slice none 0 0] 95)) w.heap.size 0 0 0 0 (.slice none 0 0) from Go.heap_alloc_new w _) (Fr.below (F := []) ((Below.refl _ _).alloc (Nat.le_refl _) _)) (by simp)) (Fr.below (F := []) ((Below.refl _ _).alloc (Nat.le_refl _) _)) (by simp))
      have HC0 := Lib.hid (show CutAt (((w.alloc (.cells #[.int .i64 0, .int .i64 0, .int .u64 0, .int .i64 0, .slice none 0 0] 95)).alloc (.cells #[.int .i64 (nx : Int)] 3)).alloc (.cells #[.int .i64 0, .int .i64 1, .int .u64 0, .int .i64 0, .slice (some ⟨w.heap.size + 1, 0, none⟩) 1 1] 95)) (w.heap.size + 1 + 1) 0 1 0 0 (.slice (some ⟨w.heap.size + 1, 0, none⟩) 1 1) from by
        have h := Go.heap_alloc_new ((w.alloc (.cells #[.int .i64 0, .int .i64 0, .int .u64 0, .int .i64 0, .slice none 0 0] 95)).alloc (.cells #[.int .i64 (nx : Int)] 3)) (.cells #[.int .i64 0, .int .i64 1, .int .u64 0, .int .i64 0, .slice (some ⟨w.heap.size + 1, 0, none⟩) 1 1] 95)
        rw [show ((w.alloc (.cells #[.int .i64 0, .int .i64 0, .int .u64 0, .int .i64 0, .slice none 0 0] 95)).alloc (.cells #[.int .i64 (nx : Int)] 3)).heap.size = w.heap.size + 1 + 1 by simp] at h
        exact h)
      have HB0 := Lib.hid (show Below w.heap.size w (((w.alloc (.cells #[.int .i64 0, .int .i64 0, .int .u64 0, .int .i64 0, .slice none 0 0] 95)).alloc (.cells #[.int .i64 (nx : Int)] 3)).alloc (.cells #[.int .i64 0, .int .i64 1, .int .u64 0, .int .i64 0, .slice (some ⟨w.heap.size + 1, 0, none⟩) 1 1] 95)) from (((Below.refl _ _).alloc (Nat.le_refl _) _).alloc (by simp) _).alloc (by simp; omega) _)
      have HR0 := Lib.hid (show Row (((w.alloc (.cells #[.int .i64 0, .int .i64 0, .int .u64 0, .int .i64 0, .slice none 0 0] 95)).alloc (.cells #[.int .i64 (nx : Int)] 3)).alloc (.cells #[.int .i64 0, .int .i64 1, .int .u64 0, .int .i64 0, .slice (some ⟨w.heap.size + 1, 0, none⟩) 1 1] 95)) w.heap.size 3 (.slice (some ⟨w.heap.size + 1, 0, none⟩) 1 1) (ints [nx]) from by
        have h := Go.heap_alloc_new (w.alloc (.cells #[.int .i64 0, .int .i64 0, .int .u64 0, .int .i64 0, .slice none 0 0] 95)) (.cells #[.int .i64 (nx : Int)] 3)
        rw [show (w.alloc (.cells #[.int .i64 0, .int .i64 0, .int .u64 0, .int .i64 0, .slice none 0 0] 95)).heap.size = w.heap.size + 1 by simp] at h
        have h2 : Row ((w.alloc (.cells #[.int .i64 0, .int .i64 0, .int .u64 0, .int .i64 0, .slice none 0 0] 95)).alloc (.cells #[.int .i64 (nx : Int)] 3)) w.heap.size 3 (.slice (some ⟨w.heap.size + 1, 0, none⟩) 1 1) (ints [nx]) := Or.inr ⟨w.heap.size + 1, 0, 1, #[.int .i64 (nx : Int)], (0, 0), rfl, by omega, h, Free.none _, Nat.le_refl _, by decide, by simp, rfl⟩
        exact h2.alloc _)
      go_loopw [12, 16] (fun p i wr => ∃ (k nx' dp : Nat) (pre : List Nat) (v : Value), k ≤ n ∧ p = .int .i64 (nx' : Int) ∧ i = .int .i64 (k : Int) ∧ kidsL (rd s.data.toList room) (n - k) nx' dp (pre ++ [nx']) = R ∧ pre.length = k ∧ nx' ≤ s.size ∧ dp ≤ 1001 ∧ CutAt wr w.heap.size 0 0 0 0 (.slice none 0 0) ∧ CutAt wr (w.heap.size + 1 + 1) 0 dp 0 0 v ∧ Row wr w.heap.size 3 v (ints (pre ++ [nx'])) ∧ Below w.heap.size w wr) (fun _ i _ => n - (intOf i).toNat)
      case atStart => exact ⟨0, nx, 1, [], _, Nat.zero_le _, rfl, rfl, HRR.out, rfl, hnx, by omega, HZ0.out, HC0.out, HR0.out, HB0.out⟩
      case round =>
        obtain ⟨k, nx', dp, pre, v, hk, rfl, rfl, hrest, hpre, hnx', hdp, hz, hcut, hrow, hbel⟩ := hrel
        clear HZ0 HC0 HR0 HB0
        have hksl : (pre ++ [nx']).length = k + 1 := by rw [List.length_append, hpre]; rfl
        obtain ⟨Av, cv, hv, hcv, hcells⟩ := Row.shape hrow
        rw [show (ints (pre ++ [nx'])).length = (pre ++ [nx']).length by simp [ints]] at hv hcv
        subst hv
        have HZr := Lib.hid hz
        have HCr := Lib.hid hcut
        have HRr := Lib.hid hrow
        have HBr := Lib.hid hbel
        have HCells := Lib.hid hcells
        by_cases hlt : k < n
        · have hT := HTT.out nx' wr hnx'
          obtain ⟨m, hm⟩ : ∃ m, n - k = m + 1 := ⟨n - k - 1, by omega⟩
          unfold RReadP at hT
          cases hq : rd s.data.toList room nx' with
          | none =>
            have hRn : R = none := by rw [← hrest, hm]; exact kidsL_stop hq
            have HN := Lib.hid (show rd s.data.toList (room + 1) at_ = none by rw [HRD.out, hRn]; rfl)
            rw [hq] at hT
            simp only at hT
            unfold cutV at hT
            have HT1 := Lib.hid hT
            clear hT hrest hz hcut hrow hbel hcells hq hm
            go_wp2_with fail
            refine HT1.out.mono ?_
            rintro e w1 ⟨d', n', f', A', l', c', rfl, hb1⟩
            have HZ9 := Lib.hid (show CutAt (w1.alloc (.cells #[.int .i64 (-1), .int .i64 d', .int .u64 n', .int .i64 f', .slice A' l' c'] 95)) w.heap.size 0 0 0 0 (.slice none 0 0) from (HZr.out.fr (Fr.below (F := []) hb1) (by simp)).fr (Fr.below (F := []) ((Below.refl _ _).alloc (Nat.le_refl _) _)) (by simp))
            have HB9 := Lib.hid (show Below w.heap.size w (w1.alloc (.cells #[.int .i64 (-1), .int .i64 d', .int .u64 n', .int .i64 f', .slice A' l' c'] 95)) from (HBr.out.trans (hb1.mono HBr.out.size)).alloc (Nat.le_trans HBr.out.size hb1.size) _)
            clear hb1
            go_wp2_with fail
            refine (none_any _).mono ?_
            rintro e w2 ⟨rfl, hb2⟩
            unfold cutV
            have hz2 : CutAt w2 w.heap.size 0 0 0 0 (.slice none 0 0) := (HZ9.out).fr (Fr.below (F := []) hb2) (by simp)
            have hB2 := HB9.out.trans (hb2.mono HB9.out.size)
            obtain ⟨z0, z1, z2, z3, z4, zf⟩ := hz2.cells
            have HZ2 := Lib.hid hz2
            have HB2 := Lib.hid hB2
            clear hz2 hB2 hb2
            go_wp2_with fail
            have hA := put5_at HZ2.out (.int .i64 (-1)) (.int .i64 0) (.int .u64 0) (.int .i64 0) (.slice none 0 0)
            have hF := HB2.out.trans (put5_low w2 w.heap.size (.int .i64 (-1)) (.int .i64 0) (.int .u64 0) (.int .i64 0) (.slice none 0 0) HB2.out.size (Nat.le_refl _))
            change bodyPost _ _ _ _ _ (put5 w2 w.heap.size (.int .i64 (-1)) (.int .i64 0) (.int .u64 0) (.int .i64 0) (.slice none 0 0))
            generalize put5 w2 w.heap.size (.int .i64 (-1)) (.int .i64 0) (.int .u64 0) (.int .i64 0) (.slice none 0 0) = Wf at hA hF ⊢
            obtain ⟨r0, r1, r2, r3, r4, -⟩ := CutAt.cells (show CutAt Wf w.heap.size (-1) 0 0 0 (.slice none 0 0) from hA)
            refine bodyPost_ret (v := cutV (-1) 0 0 0 (.slice none 0 0)) (by simp [results, Tryz.results59, go_sem, r0, r1, r2, r3, r4, cutV]) rfl ?_
            unfold RReadP
            rw [HN.out]
            exact ⟨0, 0, 0, none, 0, 0, rfl, hF⟩
          | some x =>
            have hran := rd_range _ _ hq
            have hx1 : (0 : Int) ≤ (x.fin : Int) := by omega
            have hge : decide ((x.fin : Int) < 0) = false := decide_eq_false (by omega)
            have hxs : x.fin ≤ s.size := hran.hi
            have hxd : x.deep ≤ room := hran.d2
            have HRN := Lib.hid (show kidsL (rd s.data.toList room) (n - (k + 1)) x.fin (max dp (x.deep + 1)) ((pre ++ [nx']) ++ [x.fin]) = R by rw [← hrest, show n - k = (n - (k + 1)) + 1 by omega]; exact (kidsL_next hq).symm)
            rw [hq] at hT
            simp only at hT
            unfold cutV at hT
            have HT1 := Lib.hid hT
            obtain ⟨d1, hd1⟩ : ∃ d1 : Nat, x.deep + 1 = d1 := ⟨_, rfl⟩
            have hdw : IntKind.i64.wrap ((x.deep : Int) + 1) = (d1 : Int) := by rw [IntWalk.i64_in _ (by omega)]; omega
            obtain ⟨mx, hmx⟩ : ∃ mx : Nat, max dp d1 = mx := ⟨_, rfl⟩
            have hmax : max (dp : Int) (d1 : Int) = (mx : Int) := by omega
            rw [hd1, hmx] at HRN
            have hmx1 : mx ≤ 1001 := by omega
            clear hT hrest hz hcut hrow hbel hcells hq hm hran hd1 hmx
            go_wp2_with fail
            refine HT1.out.mono ?_
            rintro e w1 ⟨N, F, Ax, capx, rfl, -, -, -, hb1⟩
            have hb2 : Below w1.heap.size w1 (w1.alloc (.cells #[.int .i64 (x.fin : Int), .int .i64 (x.deep : Int), .int .u64 N, .int .i64 F, .slice Ax x.kids.length capx] 95)) := (Below.refl _ _).alloc (Nat.le_refl _) _
            have hcx : CutAt (w1.alloc (.cells #[.int .i64 (x.fin : Int), .int .i64 (x.deep : Int), .int .u64 N, .int .i64 F, .slice Ax x.kids.length capx] 95)) w1.heap.size x.fin x.deep N F (.slice Ax x.kids.length capx) := Go.heap_alloc_new w1 _
            have hc2 := (HCr.out.fr (Fr.below (F := []) hb1) (by simp)).fr (Fr.below (F := []) hb2) (by simp)
            have hz2 := (HZr.out.fr (Fr.below (F := []) hb1) (by simp)).fr (Fr.below (F := []) hb2) (by simp)
            have hr2 := Row.below (HRr.out.below hb1) hb2
            have hB2 := (HBr.out.trans (hb1.mono HBr.out.size)).trans (hb2.mono (Nat.le_trans HBr.out.size hb1.size))
            have hne : w1.heap.size ≠ w.heap.size + 1 + 1 := fun e => by have := lt_of_block (HCr.out.fr (Fr.below (F := []) hb1) (by simp)); omega
            have hne2 : w.heap.size + 1 + 1 ≠ w1.heap.size := Ne.symm hne
            obtain ⟨c0, c1, c2, c3, c4, cf⟩ := hc2.cells
            obtain ⟨x0, x1, -, -, -, -⟩ := hcx.cells
            have HC2 := Lib.hid hc2
            have HX2 := Lib.hid hcx
            have HZ2 := Lib.hid hz2
            have HR2 := Lib.hid hr2
            have HB2 := Lib.hid hB2
            clear hc2 hz2 hr2 hB2 hcx hb2 hb1
            have hlen := hksl
            have hput : Fr [w.heap.size + 1 + 1] (w1.alloc (.cells #[.int .i64 (x.fin : Int), .int .i64 (x.deep : Int), .int .u64 N, .int .i64 F, .slice Ax x.kids.length capx] 95)) ((w1.alloc (.cells #[.int .i64 (x.fin : Int), .int .i64 (x.deep : Int), .int .u64 N, .int .i64 F, .slice Ax x.kids.length capx] 95)).setCell ⟨w.heap.size + 1 + 1, 1, none⟩ (.int .i64 (mx : Int))) := Fr.put0 _ _ 1 _ (by simp)
            have hz3 : CutAt ((w1.alloc (.cells #[.int .i64 (x.fin : Int), .int .i64 (x.deep : Int), .int .u64 N, .int .i64 F, .slice Ax x.kids.length capx] 95)).setCell ⟨w.heap.size + 1 + 1, 1, none⟩ (.int .i64 (mx : Int))) w.heap.size 0 0 0 0 (.slice none 0 0) := HZ2.out.fr hput (by simp; omega)
            have hc3 : CutAt ((w1.alloc (.cells #[.int .i64 (x.fin : Int), .int .i64 (x.deep : Int), .int .u64 N, .int .i64 F, .slice Ax x.kids.length capx] 95)).setCell ⟨w.heap.size + 1 + 1, 1, none⟩ (.int .i64 (mx : Int))) (w.heap.size + 1 + 1) 0 mx 0 0 (.slice Av (pre ++ [nx']).length cv) := setCell_cells HC2.out 1 _
            have hr3 := row_fr HR2.out hput (fun g hg => by simpa using row_ne_cut HR2.out (by decide) HC2.out g hg)
            have hB3 := HB2.out.trans (hput.toBelowOf (B := w.heap.size) HB2.out.size (fun i hi => by simp at hi; omega))
            have HZ3 := Lib.hid hz3
            have HC3 := Lib.hid hc3
            have HR3 := Lib.hid hr3
            have HB3 := Lib.hid hB3
            rw [hksl] at HC3 HR3
            clear hz3 hc3 hr3 hB3 hput hlen
            have hsz3 : ((w1.alloc (.cells #[.int .i64 (x.fin : Int), .int .i64 (x.deep : Int), .int .u64 N, .int .i64 F, .slice Ax x.kids.length capx] 95)).setCell ⟨w.heap.size + 1 + 1, 1, none⟩ (.int .i64 (mx : Int))).heap.size = w1.heap.size + 1 := by simp
            have hil : (ints (pre ++ [nx'])).length = k + 1 := by rw [← hksl]; simp [ints]
            have hil2 : (ints (pre ++ [nx']) ++ [Value.int .i64 (x.fin : Int)]).length = k + 1 + 1 := by rw [List.length_append, hil]; rfl
            go_wp2_with (at_builtin
                         go_loud (refine wpList_row1 slInt rfl (.tmp 131) (.tmp 133) rfl w.heap.size (.slice Av (k + 1) cv) (ints (pre ++ [nx'])) (by rfl) HR3.out (.int .i64 (x.fin : Int)) (by rw [hsz3]; rfl) (by rfl) (by rw [hil]; omega) (by rw [hil]; omega) HB3.out.size ?_)
                         intro v6 w6 hr6 hg6 hb6 hat6
                         have hc6 : CutAt w6 (w.heap.size + 1 + 1) 0 mx 0 0 (.slice Av (k + 1) cv) := grown_keep hg6 HC3.out (fun e => row_ne_cut HR3.out (by decide) HC3.out _ e.symm rfl)
                         have hz6 : CutAt w6 w.heap.size 0 0 0 0 (.slice none 0 0) := grown_keep hg6 HZ3.out (fun e => row_ne_cut HR3.out (by decide) HZ3.out _ e.symm rfl)
                         have hB6 := HB3.out.trans hb6
                         obtain ⟨A6, c6, rfl, -, -⟩ := Row.shape hr6
                         rw [hil2] at hr6 ⊢
                         obtain ⟨e0, e1, e2, e3, e4, ef⟩ := hc6.cells
                         have HC6 := Lib.hid hc6
                         have HZ6 := Lib.hid hz6
                         have HR6 := Lib.hid hr6
                         have HB6 := Lib.hid hB6
                         clear hc6 hz6 hr6 hB6 hg6 hb6 hat6 c0 c1 c2 c3 c4 cf x0 x1)
            go_roundw
            case rel =>
              have hput : Fr [w.heap.size + 1 + 1] w6 (w6.setCell ⟨w.heap.size + 1 + 1, 4, none⟩ (.slice A6 (k + 1 + 1) c6)) := Fr.put0 _ _ 4 _ (by simp)
              refine ⟨k + 1, x.fin, mx, pre ++ [nx'], .slice A6 (k + 1 + 1) c6, by omega, rfl, by go_num, HRN.out, hksl, hxs, hmx1, HZ6.out.fr hput (by simp; omega), setCell_cells HC6.out 4 _, ?_, HB6.out.trans (hput.toBelowOf (B := w.heap.size) HB6.out.size (fun i hi => by simp at hi; omega))⟩
              have hro := row_fr HR6.out hput (fun g hg => by simpa using row_ne_cut HR6.out (by decide) HC6.out g hg)
              have hie : ints (pre ++ [nx'] ++ [x.fin]) = ints (pre ++ [nx']) ++ [Value.int .i64 (x.fin : Int)] := by simp [ints]
              rw [hie]
              exact hro
            case measure => simp [intOf]; omega
        · have hkn : k = n := by omega
          subst hkn
          rw [Nat.sub_self] at hrest
          have hRs : R = some (nx', dp, pre ++ [nx']) := by rw [← hrest]; rfl
          obtain ⟨-, -, -, -, -, kf, kf1, kf2⟩ := HKF.out ⟨nx', dp, 0, 0, pre ++ [nx']⟩ (by rw [hRs]; rfl)
          have HRD2 := Lib.hid (show rd s.data.toList (room + 1) at_ = if fitsB s.data.toList c (pre ++ [nx']) then some ⟨nx', dp, 0, 0, pre ++ [nx']⟩ else none by rw [HRD.out, hRs]; rfl)
          have hput : Fr [w.heap.size + 1 + 1] wr (wr.setCell ⟨w.heap.size + 1 + 1, 0, none⟩ (.int .i64 (nx' : Int))) := Fr.put0 _ _ 0 _ (by simp)
          have hcs : CutAt (wr.setCell ⟨w.heap.size + 1 + 1, 0, none⟩ (.int .i64 (nx' : Int))) (w.heap.size + 1 + 1) nx' dp 0 0 (.slice Av (pre ++ [nx']).length cv) := setCell_cells hcut 0 _
          have hzs := hz.fr hput (by simp; omega)
          have hrs := row_fr hrow hput (fun g hg => by simpa using row_ne_cut hrow (by decide) hcut g hg)
          have hBs := hbel.trans (hput.toBelowOf (B := w.heap.size) hbel.size (fun i hi => by simp at hi; omega))
          have HFI := Lib.hid (rfits_any s c at_ (pre ++ [nx']) nx' dp 0 0 Av cv (wr.setCell ⟨w.heap.size + 1 + 1, 0, none⟩ (.int .i64 (nx' : Int))) HBC.out hat hs (by rw [hksl]; omega) (row_cells hrs) (fun i hi => kf i (by show i < (pre ++ [nx']).length - 1; omega)) (fun h => by have := kf1 h; show 2 ≤ (pre ++ [nx']).length; have h2 : 1 ≤ (pre ++ [nx']).length - 1 := this; omega) (fun h => by have := kf2 h; show 3 ≤ (pre ++ [nx']).length; have h2 : 2 ≤ (pre ++ [nx']).length - 1 := this; omega))
          unfold cutV at HFI
          have HCS := Lib.hid hcs
          have HZS := Lib.hid hzs
          have HRS := Lib.hid hrs
          have HBS := Lib.hid hBs
          rw [hksl] at HCS HRS HFI
          obtain ⟨c0, c1, c2, c3, c4, cf⟩ := hcut.cells
          clear hput hcs hzs hrs hBs hrest hRs kf kf1 kf2 hz hcut hrow hbel hcells
          go_wp2_with fail
          refine HFI.out.mono ?_
          rintro e w1 ⟨rfl, hb1⟩
          have hc1 := HCS.out.fr (Fr.below (F := []) hb1) (by simp)
          have hz1 := HZS.out.fr (Fr.below (F := []) hb1) (by simp)
          have hr1 := HRS.out.below hb1
          have hB1 := HBS.out.trans (hb1.mono HBS.out.size)
          clear c0 c1 c2 c3 c4 cf
          obtain ⟨c0, c1, c2, c3, c4, cf⟩ := hc1.cells
          obtain ⟨y0, y1, y2, y3, y4, yf⟩ := hz1.cells
          have HZ9 := Lib.hid hz1
          have HB9 := Lib.hid hB1
          have HR9 := Lib.hid hr1
          clear hc1 hz1 hr1 hB1 hb1
          cases hfb : fitsB s.data.toList c (pre ++ [nx']) with
          | false =>
            have HN := Lib.hid (show rd s.data.toList (room + 1) at_ = none by rw [HRD2.out, hfb]; rfl)
            clear hfb y0 y1 y2 y3 y4 yf
            go_wp2_with fail
            refine (none_any _).mono ?_
            rintro e w2 ⟨rfl, hb2⟩
            unfold cutV
            have hz2 : CutAt w2 w.heap.size 0 0 0 0 (.slice none 0 0) := (HZ9.out).fr (Fr.below (F := []) hb2) (by simp)
            have hB2 := HB9.out.trans (hb2.mono HB9.out.size)
            obtain ⟨z0, z1, z2, z3, z4, zf⟩ := hz2.cells
            have HZ2 := Lib.hid hz2
            have HB2 := Lib.hid hB2
            clear hz2 hB2 hb2
            go_wp2_with fail
            have hA := put5_at HZ2.out (.int .i64 (-1)) (.int .i64 0) (.int .u64 0) (.int .i64 0) (.slice none 0 0)
            have hF := HB2.out.trans (put5_low w2 w.heap.size (.int .i64 (-1)) (.int .i64 0) (.int .u64 0) (.int .i64 0) (.slice none 0 0) HB2.out.size (Nat.le_refl _))
            change bodyPost _ _ _ _ _ (put5 w2 w.heap.size (.int .i64 (-1)) (.int .i64 0) (.int .u64 0) (.int .i64 0) (.slice none 0 0))
            generalize put5 w2 w.heap.size (.int .i64 (-1)) (.int .i64 0) (.int .u64 0) (.int .i64 0) (.slice none 0 0) = Wf at hA hF ⊢
            obtain ⟨r0, r1, r2, r3, r4, -⟩ := CutAt.cells (show CutAt Wf w.heap.size (-1) 0 0 0 (.slice none 0 0) from hA)
            refine bodyPost_ret (v := cutV (-1) 0 0 0 (.slice none 0 0)) (by simp [results, Tryz.results59, go_sem, r0, r1, r2, r3, r4, cutV]) rfl ?_
            unfold RReadP
            rw [HN.out]
            exact ⟨0, 0, 0, none, 0, 0, rfl, hF⟩
          | true =>
            have HS := Lib.hid (show rd s.data.toList (room + 1) at_ = some ⟨nx', dp, 0, 0, pre ++ [nx']⟩ by rw [HRD2.out, hfb]; rfl)
            clear hfb
            go_wp2_with fail
            have hA := put5_at HZ9.out (.int .i64 (nx' : Int)) (.int .i64 (dp : Int)) (.int .u64 0) (.int .i64 0) (.slice Av (k + 1) cv)
            have hF := HB9.out.trans (put5_low w1 w.heap.size (.int .i64 (nx' : Int)) (.int .i64 (dp : Int)) (.int .u64 0) (.int .i64 0) (.slice Av (k + 1) cv) HB9.out.size (Nat.le_refl _))
            have hro := row_fr HR9.out (put5_fr w1 w.heap.size (.int .i64 (nx' : Int)) (.int .i64 (dp : Int)) (.int .u64 0) (.int .i64 0) (.slice Av (k + 1) cv) (List.mem_singleton.2 rfl)) (fun g hg => by simpa using row_ne_cut HR9.out (by decide) HZ9.out g hg)
            change bodyPost _ _ _ _ _ (put5 w1 w.heap.size (.int .i64 (nx' : Int)) (.int .i64 (dp : Int)) (.int .u64 0) (.int .i64 0) (.slice Av (k + 1) cv))
            generalize put5 w1 w.heap.size (.int .i64 (nx' : Int)) (.int .i64 (dp : Int)) (.int .u64 0) (.int .i64 0) (.slice Av (k + 1) cv) = Wf at hA hF hro ⊢
            obtain ⟨r0, r1, r2, r3, r4, -⟩ := CutAt.cells (show CutAt Wf w.heap.size nx' dp 0 0 (.slice Av (k + 1) cv) from hA)
            refine bodyPost_ret (v := cutV nx' dp 0 0 (.slice Av (k + 1) cv)) (by simp [results, Tryz.results59, go_sem, r0, r1, r2, r3, r4, cutV]) rfl ?_
            unfold RReadP
            rw [HS.out]
            exact ⟨0, 0, Av, cv, by show _ = Ending.returned (cutV nx' dp 0 0 (.slice Av (pre ++ [nx']).length cv)); rw [hksl], fun h => absurd (HBC.out.symm.trans h) H110.out, fun h => absurd (HBC.out.symm.trans h) H116.out, row_cells hro, hF⟩
end Go.Proofs.YtaonadgelkdbcaaGreatDoor
