/- The law's opens: signatures by secrets, a preimage, lock.Opens. -/
import Derived.Test.YtbiioifpeebjaaaGreatDoorOpW
set_option linter.all false
namespace Go.Proofs.YtbiioifpeebjaaaGreatDoor
open Go.RowKit


theorem row_at {w : World} {base : Nat} {E : TypeId} {v : Value} {xs : List Value} (h : Row w base E v xs) {g : Nat} (hg : v.ownBlock = some g) : ∃ cur fr, w.heap[g]? = some (.cells cur E fr) := by
  rcases h with ⟨rfl, _⟩ | ⟨g', off, cap, cur, fr, rfl, -, hh, -⟩
  · cases hg
  · injection hg with hg
    subst hg
    exact ⟨cur, fr, hh⟩
theorem row_ne {w : World} {base : Nat} {E T : TypeId} {v : Value} {xs : List Value} {b : Nat} {cs : Array Value} {z : Nat × Nat} (h : Row w base E v xs) (hb : w.heap[b]? = some (.cells cs T z)) (hE : T ≠ E) : ∀ g, v.ownBlock = some g → g ≠ b := fun g hg e => by
  obtain ⟨cur, fr, hc⟩ := row_at h hg
  subst e
  rw [hb] at hc
  injection hc with hc
  injection hc with h1 h2
  exact hE h2
theorem row_set {w : World} {base : Nat} {E : TypeId} {v : Value} {xs : List Value} (h : Row w base E v xs) (b j : Nat) (u : Value) (hb : ∀ g, v.ownBlock = some g → g ≠ b) : Row (w.setCell ⟨b, j, none⟩ u) base E v xs := by
  rcases h with h | ⟨g, off, cap, cur, fr, rfl, hg, hh, r⟩
  · exact .inl h
  · exact .inr ⟨g, off, cap, cur, fr, rfl, hg, (Below.heap_setCell w ⟨b, j, none⟩ u g (hb g rfl)).trans hh, r⟩
theorem cell_block {w : World} {b j : Nat} {cs : Array Value} {T : TypeId} {v : Value} (h : w.heap[b]? = some (.cells cs T (0, 0))) (hj : cs[j]? = some v) : w.cell? ⟨b, j, none⟩ = some v ∧ w.frozen? ⟨b, j, none⟩ = false := by
  refine ⟨?_, by simp [World.frozen?, h]⟩
  simp only [World.cell?, h]
  simpa using hj
theorem below_set {B : Nat} {w V : World} (h : Below B w V) {b : Nat} (hb : B ≤ b) (j : Nat) (u : Value) : Below B w (V.setCell ⟨b, j, none⟩ u) :=
  h.trans ⟨rfl, rfl, rfl, by simp [World.setCell], fun i hi => Below.heap_setCell V ⟨b, j, none⟩ u i (fun e => by have : i = b := e; omega)⟩
theorem slTerm1 : SlTy Tryz.prog 32 28 (.string ⟨#[]⟩) 16 := ⟨Tryz.underlying32, by kernel_rfl, rfl⟩
def msgT : ByteArray := ⟨#[116, 49, 58, 109]⟩
def SignOk (k s : ByteArray) : Prop := ∀ W : World, VarsOk W → Calls Tryz.prog 26 #[.string k, .string ⟨#[116, 49, 58, 109]⟩] W fun e w' => e = .returned (.tuple #[.string s, .int .i64 0]) ∧ Below W.heap.size W w'
def prOf (pre : ByteArray) : List ByteArray := if pre.toList = [] then [] else [pre]
theorem strs_len' (l : List ByteArray) : (strs l).length = l.length := by unfold strs; rw [List.length_map]
set_option maxRecDepth 100000 in
set_option maxHeartbeats 8000000 in
theorem law_opens (after age : Int) (ks : List ByteArray) (pre : ByteArray) (KA : Option Addr) (kc : Nat) (sf pbf hsf : ByteArray → ByteArray) (hks : ∀ k ∈ ks, SignOk k (sf k)) (hvs : ∀ k ∈ ks, VerOk (sf k) (pbf (sf k)) msgT) (hpr : ∀ x ∈ prOf pre, HashOk x (hsf x)) (hkl : ks.length ≤ 16)
    (x : LockT) (cs : List Value) (w : World) (hr : lockB x = true) (hsm : smallT x) (hlc : LockC w x cs) (hKA : Cells w KA (strs ks)) (hv : VarsOk w) :
    Calls Tryz.prog 11 #[.agg cs.toArray, .slice KA ks.length kc, .string pre, .int .i64 after, .int .i64 age] w fun e w' => e = .returned (.bool (opB ((ks.map sf).map pbf) ((prOf pre).map hsf) after age x)) ∧ Below w.heap.size w w' := by
  obtain ⟨B, cap, xs, rfl, hcx, hlx⟩ := hlc.shape
  obtain ⟨k, t, q, l⟩ := x
  simp only [LockT.kind, LockT.term, LockT.n, LockT.kids] at hcx hlx hlc ⊢
  have hb0 : Below w.heap.size w ((w.alloc (.cells #[.int .u8 k, .string t, .int .i64 q, .slice B l.length cap] 35)).alloc (.cells #[.slice none 0 0, .slice none 0 0] 69)) := ((Below.refl w.heap.size w).alloc (Nat.le_refl _) (.cells #[.int .u8 k, .string t, .int .i64 q, .slice B l.length cap] 35)).alloc (by simp) (.cells #[.slice none 0 0, .slice none 0 0] 69)
  have HB := Lib.hid hb0
  have HL := Lib.hid (show ((w.alloc (.cells #[.int .u8 k, .string t, .int .i64 q, .slice B l.length cap] 35)).alloc (.cells #[.slice none 0 0, .slice none 0 0] 69)).heap[w.heap.size]? = some (.cells #[.int .u8 k, .string t, .int .i64 q, .slice B l.length cap] 35) from allocs_at [(.cells #[.int .u8 k, .string t, .int .i64 q, .slice B l.length cap] 35), (.cells #[.slice none 0 0, .slice none 0 0] 69)] w 0 _ rfl)
  have HW := Lib.hid (show ((w.alloc (.cells #[.int .u8 k, .string t, .int .i64 q, .slice B l.length cap] 35)).alloc (.cells #[.slice none 0 0, .slice none 0 0] 69)).heap[w.heap.size + 1]? = some (.cells #[.slice none 0 0, .slice none 0 0] 69) from allocs_at [(.cells #[.int .u8 k, .string t, .int .i64 q, .slice B l.length cap] 35), (.cells #[.slice none 0 0, .slice none 0 0] 69)] w 1 _ rfl)
  have HKA := Lib.hid hKA
  have HV := Lib.hid hv
  have HKS := Lib.hid hks
  have HOP := Lib.hid (fun (pr : List ByteArray) (hp : pr.length ≤ 16) (hpk : ∀ x ∈ pr, HashOk x (hsf x)) (SA PA : Option Addr) (sc pc : Nat) (W : World) (hW : Below w.heap.size w W) (h1 : Cells W SA (strs (ks.map sf))) (h2 : Cells W PA (strs pr)) => (show Calls Tryz.prog 27 #[.agg #[.int .u8 k, .string t, .int .i64 q, .slice B l.length cap], .agg #[.slice SA ks.length sc, .slice PA pr.length pc], .string ⟨#[116, 49, 58, 109]⟩, .int .i64 after, .int .i64 age] W (fun e w' => e = .returned (.bool (opB ((ks.map sf).map pbf) (pr.map hsf) after age (.node k t q l))) ∧ Below W.heap.size W w') by
    have h := lopens_any msgT after age (ks.map sf) pr SA PA sc pc pbf hsf (fun s hs => by obtain ⟨y, hy, rfl⟩ := List.mem_map.1 hs; exact hvs y hy) hpk (by rw [List.length_map]; exact hkl) hp (.node k t q l) _ W hr hsm (LockC.below hW _ _ hlc) h1 h2 (hv.below hW)
    rw [List.length_map] at h
    exact h))
  have HPR := Lib.hid hpr
  clear hb0 hKA hv hks hvs hpr hcx hlx hlc hr hsm
  go_enter Tryz.func11, Tryz.ntmps11
  go_wp2_with fail
  generalize ((w.alloc (.cells #[.int .u8 k, .string t, .int .i64 q, .slice B l.length cap] 35)).alloc (.cells #[.slice none 0 0, .slice none 0 0] 69)) = V at HB HL HW ⊢
  go_loopw [12] (fun vi wr => ∃ (i : Nat) (A : Option Addr) (c : Nat), i ≤ ks.length ∧ vi = .int .i64 (i : Int) ∧ wr.heap[w.heap.size + 1]? = some (.cells #[.slice A i c, .slice none 0 0] 69 (0, 0)) ∧ Row wr w.heap.size 28 (.slice A i c) (strs ((ks.take i).map sf)) ∧ Below w.heap.size w wr ∧ wr.heap[w.heap.size]? = some (.cells #[.int .u8 k, .string t, .int .i64 q, .slice B l.length cap] 35)) (fun vi _ => ks.length - (intOf vi).toNat)
  case atStart => exact ⟨0, none, 0, Nat.zero_le _, rfl, HW.out, Row.nil _ _ _, HB.out, HL.out⟩
  case round =>
    clear HB HL HW
    obtain ⟨i, A, c, hi, rfl, hw, hrow, hb, hl⟩ := hrel
    have HB := Lib.hid hb
    by_cases hlt : i < ks.length
    · obtain ⟨kd, hkd, hk0⟩ := strs_at (Cells.below HKA.out hb) hlt
      subst hkd
      have HSG := Lib.hid (HKS.out _ (List.getElem_mem hlt) wr (HV.out.below hb))
      have HTK := Lib.hid (show strs ((ks.take (i + 1)).map sf) = strs ((ks.take i).map sf) ++ [.string (sf ks[i])] by rw [List.take_succ_eq_append_getElem hlt, List.map_append]; unfold strs; rw [List.map_append]; rfl)
      have HLN := Lib.hid (show (strs ((ks.take i).map sf)).length = i by rw [strs_len', List.length_map, List.length_take]; omega)
      have HW0 := Lib.hid hw
      have HR0 := Lib.hid hrow
      have HL0 := Lib.hid hl
      clear hw hrow hl hb
      go_wp2_with fail
      refine HSG.out.mono ?_
      rintro e w1 ⟨rfl, hb1⟩
      have hw1 := (hb1.block _ (lt_of_block HW0.out)).trans HW0.out
      have hl1 := (hb1.block _ (lt_of_block HL0.out)).trans HL0.out
      have hr1 := Row.below HR0.out hb1
      have HB1 := Lib.hid (HB.out.trans (hb1.mono HB.out.size))
      obtain ⟨q0, z0⟩ := cell_block hw1 (j := 0) rfl
      have HW1 := Lib.hid hw1
      have HL1 := Lib.hid hl1
      have HR1 := Lib.hid hr1
      clear hw1 hl1 hr1 hb1 hk0
      have hi16 : i ≤ 16 := by omega
      go_wp2_with (at_builtin
                   refine wpList_row1 slTerm1 rfl (.tmp 32) (.tmp 34) rfl w.heap.size (.slice A i c) (strs ((ks.take i).map sf)) (by rfl) HR1.out (.string (sf ks[i])) (by rfl) (by rfl) (by rw [HLN.out]; omega) (by rw [HLN.out]; omega) HB1.out.size ?_
                   intro v6 w6 hr6 hg6 hb6 hat6
                   obtain ⟨A6, c6, hv6, -, -⟩ := Row.shape hr6
                   rw [← HTK.out] at hr6 hv6
                   rw [show (strs ((ks.take (i + 1)).map sf)).length = i + 1 by rw [strs_len', List.length_map, List.length_take]; omega] at hv6
                   subst hv6
                   have hL6 := (hg6.block w.heap.size (lt_of_block HL1.out) (fun e => row_ne HR1.out HL1.out (by decide) w.heap.size e.symm rfl)).trans HL1.out
                   have hW6 := (hg6.block (w.heap.size + 1) (lt_of_block HW1.out) (fun e => row_ne HR1.out HW1.out (by decide) (w.heap.size + 1) e.symm rfl)).trans HW1.out
                   obtain ⟨q3, f3⟩ := cell_block hW6 (j := 0) rfl
                   have HB6 := Lib.hid (HB1.out.trans hb6)
                   have HR6 := Lib.hid hr6
                   have HL6 := Lib.hid hL6
                   have HW6 := Lib.hid hW6
                   clear hr6 hg6 hb6 hat6 hL6 hW6)
      go_roundw
      case rel =>
        have hrow7 := row_set HR6.out (w.heap.size + 1) 0 (.slice A6 (i + 1) c6) (row_ne HR6.out HW6.out (by decide))
        exact ⟨i + 1, A6, c6, hlt, by go_num, setCell_cells HW6.out 0 _, hrow7, below_set HB6.out (by omega) 0 _, (Below.heap_setCell w6 ⟨w.heap.size + 1, 0, none⟩ _ w.heap.size (fun e => by have : w.heap.size = w.heap.size + 1 := e; omega)).trans HL6.out⟩
      case measure => simp [intOf]; omega
    · obtain rfl : i = ks.length := by omega
      rw [List.take_length] at hrow
      have HSX := Lib.hid (show Cells wr A (strs (ks.map sf)) by
        obtain ⟨A', c', e, -, hc⟩ := Row.shape hrow
        injection e with e
        rw [e]; exact hc)
      have HBX := HB
      have HLX := Lib.hid hl
      have HWX := Lib.hid hw
      by_cases hq : pre.toList = []
      · have HPE := Lib.hid (show prOf pre = [] by unfold prOf; rw [if_pos hq])
        have HPX := Lib.hid (Cells.nil wr none)
        clear hw hrow hl hb
        obtain ⟨l0, -⟩ := cell_block HLX.out (j := 0) rfl
        obtain ⟨l1, -⟩ := cell_block HLX.out (j := 1) rfl
        obtain ⟨l2, -⟩ := cell_block HLX.out (j := 2) rfl
        obtain ⟨l3, -⟩ := cell_block HLX.out (j := 3) rfl
        obtain ⟨v0, -⟩ := cell_block HWX.out (j := 0) rfl
        obtain ⟨v1, -⟩ := cell_block HWX.out (j := 1) rfl
        have HO := Lib.hid (HOP.out [] (by simp; try omega) (fun x hx => by cases hx) A none c 0 _ HBX.out HSX.out HPX.out)
        go_wp2_with fail
        refine HO.out.mono ?_
        rintro e wz ⟨rfl, hbz⟩
        have HBZ := Lib.hid (HBX.out.trans (hbz.mono HBX.out.size)); clear hbz
        go_wp2_with fail
        go_ret
        exact ⟨by rw [HPE.out, List.map_map]; rfl, HBZ.out⟩
      · have HPE := Lib.hid (show prOf pre = [pre] by unfold prOf; rw [if_neg hq])
        have hq2 : pre.toList.isEmpty = false := by simpa using hq
        have HPR1 := Lib.hid (HPR.out)
        rw [HPE.out] at HPR1
        obtain ⟨q1, z1⟩ := cell_block hw (j := 1) rfl
        have HRX := Lib.hid hrow
        clear hw hrow hl hb
        go_wp2_with (at_builtin
                     refine wpList_row1 slTerm1 rfl (.tmp 40) (.tmp 42) rfl w.heap.size (.slice none 0 0) [] (by rfl) (Row.nil _ _ _) (.string pre) (by rfl) (by rfl) (by show (0 + 1) * 16 ≤ 140737488355328; omega) (by show 0 + 1 ≤ 140737488355328; omega) HBX.out.size ?_
                     intro v6 w6 hr6 hg6 hb6 hat6
                     obtain ⟨A6, c6, hv6, -, hc6⟩ := Row.shape hr6
                     replace hv6 : v6 = .slice A6 1 c6 := hv6
                     subst hv6
                     replace hr6 : Row w6 w.heap.size 28 (.slice A6 1 c6) (strs [pre]) := hr6
                     have hL6 := (hg6.block w.heap.size (lt_of_block HLX.out) (fun e => by cases e)).trans HLX.out
                     have hW6 := (hg6.block (w.heap.size + 1) (lt_of_block HWX.out) (fun e => by cases e)).trans HWX.out
                     obtain ⟨q3, f3⟩ := cell_block hW6 (j := 1) rfl
                     have hS6 : Row w6 w.heap.size 28 (.slice A ks.length c) (strs (ks.map sf)) := HRX.out.grown hg6 (by
                       cases hA : (Value.slice A ks.length c).ownBlock with
                       | none => exact .inl rfl
                       | some g => exact .inr (fun e => by cases e))
                     have HBX6 := Lib.hid (HBX.out.trans hb6)
                     have HLX6 := Lib.hid (show (w6.setCell ⟨w.heap.size + 1, 1, none⟩ (.slice A6 1 c6)).heap[w.heap.size]? = some (.cells #[.int .u8 k, .string t, .int .i64 q, .slice B l.length cap] 35) from (Below.heap_setCell w6 ⟨w.heap.size + 1, 1, none⟩ _ w.heap.size (fun e => by have : w.heap.size = w.heap.size + 1 := e; omega)).trans hL6)
                     have HWX6 := Lib.hid (show (w6.setCell ⟨w.heap.size + 1, 1, none⟩ (.slice A6 1 c6)).heap[w.heap.size + 1]? = some (.cells #[.slice A ks.length c, .slice A6 1 c6] 69 (0, 0)) from setCell_cells hW6 1 _)
                     have HBY := Lib.hid (show Below w.heap.size w (w6.setCell ⟨w.heap.size + 1, 1, none⟩ (.slice A6 1 c6)) from below_set HBX6.out (by omega) 1 _)
                     have HSX6 := Lib.hid (show Cells (w6.setCell ⟨w.heap.size + 1, 1, none⟩ (.slice A6 1 c6)) A (strs (ks.map sf)) by
                       have h := row_set hS6 (w.heap.size + 1) 1 (.slice A6 1 c6) (row_ne hS6 hW6 (by decide))
                       obtain ⟨A', c', e, -, hc⟩ := Row.shape h
                       injection e with e
                       subst e; exact hc)
                     have HPX6 := Lib.hid (show Cells (w6.setCell ⟨w.heap.size + 1, 1, none⟩ (.slice A6 1 c6)) A6 (strs [pre]) by
                       have h := row_set hr6 (w.heap.size + 1) 1 (.slice A6 1 c6) (row_ne hr6 hW6 (by decide))
                       obtain ⟨A', c', e, -, hc⟩ := Row.shape h
                       injection e with e
                       subst e; exact hc)
                     obtain ⟨l0, -⟩ := cell_block HLX6.out (j := 0) rfl
                     obtain ⟨l1, -⟩ := cell_block HLX6.out (j := 1) rfl
                     obtain ⟨l2, -⟩ := cell_block HLX6.out (j := 2) rfl
                     obtain ⟨l3, -⟩ := cell_block HLX6.out (j := 3) rfl
                     obtain ⟨v0, -⟩ := cell_block HWX6.out (j := 0) rfl
                     obtain ⟨v1, -⟩ := cell_block HWX6.out (j := 1) rfl
                     have HO := Lib.hid (HOP.out [pre] (by simp; try omega) HPR1.out A A6 c c6 _ HBY.out HSX6.out HPX6.out)
                     clear hr6 hg6 hb6 hat6 hL6 hW6 hS6 hc6 HLX HWX HSX)
        refine HO.out.mono ?_
        rintro e wz ⟨rfl, hbz⟩
        have HBZ := Lib.hid (HBY.out.trans (hbz.mono HBY.out.size)); clear hbz
        go_wp2_with fail
        go_ret
        exact ⟨by rw [HPE.out, List.map_map]; rfl, HBZ.out⟩
end Go.Proofs.YtbiioifpeebjaaaGreatDoor
