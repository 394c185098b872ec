/- Two lists of entries compared; how many bytes; the count; logs that are not there. · works: entries are told again. -/
import Derived.Test.YtladknjmoahdoaaQ5
import Derived.Test.YtladknjmoahdoaaQ2
set_option linter.all false
namespace Go.Proofs.Ytladknjmoahdoaa
open Go.RowKit Go

theorem arr_ne {x y : List UInt8} (h : x ≠ y) : (⟨x.toArray⟩ : ByteArray) ≠ ⟨y.toArray⟩ := fun e => h (by
  have h1 := congrArg (fun b : ByteArray => b.data.toList) e
  simpa using h1)
theorem tl_ne {a b : ByteArray} (h : ¬ a = b) : ¬ a.data.toList = b.data.toList := fun e => h (by
  cases a; cases b
  simp at e
  subst e; rfl)
theorem take_eq {α : Type} {a b : List α} {j : Nat} (h : a.take j = b.take j) (ha : j < a.length) (hb : j < b.length) (e : a[j] = b[j]) : a.take (j + 1) = b.take (j + 1) := by
  rw [← List.take_append_getElem ha, ← List.take_append_getElem hb, h, e]
theorem EntC.cell {w : World} {A : Option Addr} {vs : List Value} {es : List (List UInt8)} (h : EntC w vs es) (hA : Cells w A vs) {k : Nat} (hk : k < es.length) : ∃ ad B c, A = some ad ∧ w.cell? (ad.add k) = some (.slice B es[k].length c) ∧ Cells w B (bv es[k]) := by
  obtain ⟨ad, e, hc⟩ := hA (by rw [h.len]; omega)
  obtain ⟨B, c, hv, -, hb⟩ := h.at_ k hk
  exact ⟨ad, B, c, e, hc k _ hv, hb⟩
set_option maxRecDepth 100000 in
set_option maxHeartbeats 4000000 in
theorem same_any {A B : Option Addr} {n k ca cb : Nat} {es fs : List (List UInt8)} {vs us : List Value} {w : World} (hA : Cells w A vs) (hv : EntC w vs es) (hB : Cells w B us) (hu : EntC w us fs) (hn : es.length = n) (hk : fs.length = k) (hnl : n ≤ 1000000000) :
    Calls Try.prog 17 #[.slice A n ca, .slice B k cb] w fun e w' => e = .returned (.bool (decide (es = fs))) ∧ Below w.heap.size w w' := by
  have HA := Lib.hid hA
  have HV := Lib.hid hv
  have HB := Lib.hid hB
  have HU := Lib.hid hu
  have HN := Lib.hid hn
  have HK := Lib.hid hk
  clear hA hv hB hu hn hk
  by_cases hnk : n = k
  case neg =>
    have hd : decide (es = fs) = false := decide_eq_false fun e => hnk (by rw [← HN.out, ← HK.out, e])
    have h1 : ¬ ((n : Int) = (k : Int)) := by omega
    rw [hd]
    go_enter Try.func17, Try.ntmps17
    go_wp2_with fail
    go_ret
    exact ⟨rfl, Below.refl _ _⟩
  subst hnk
  go_enter Try.func17, Try.ntmps17
  go_wp2_with fail
  go_loopw [5] (fun i wr => ∃ j : Nat, j ≤ n ∧ i = .int .i64 j ∧ Below w.heap.size w wr ∧ es.take j = fs.take j) (fun i _ => n - (intOf i).toNat)
  case atStart => exact ⟨0, Nat.zero_le _, rfl, Below.refl _ _, rfl⟩
  case round =>
    obtain ⟨j, hj, rfl, hbr, htk⟩ := hrel
    have HBR := Lib.hid hbr
    have HTK := Lib.hid htk
    clear hbr htk
    by_cases hlt : j < n
    · have hja : j < es.length := by rw [HN.out]; exact hlt
      have hjb : j < fs.length := by rw [HK.out]; exact hlt
      obtain ⟨ad, A2, ca2, rfl, a1, hxa⟩ := HV.out.cell HA.out hja
      obtain ⟨bd, B2, cb2, rfl, b1, hyb⟩ := HU.out.cell HB.out hjb
      have a1 := cell_below HBR.out a1
      have b1 := cell_below HBR.out b1
      obtain ⟨x, hx⟩ : ∃ x, es[j] = x := ⟨_, rfl⟩
      obtain ⟨y, hy⟩ : ∃ y, fs[j] = y := ⟨_, rfl⟩
      rw [hx] at a1 hxa
      rw [hy] at b1 hyb
      have HX := Lib.hid hx
      have HY := Lib.hid hy
      have HXA := Lib.hid (hxa.below HBR.out)
      have HYB := Lib.hid (hyb.below HBR.out)
      obtain ⟨xl, hxl⟩ : ∃ xl, x.length = xl := ⟨_, rfl⟩
      obtain ⟨yl, hyl⟩ : ∃ yl, y.length = yl := ⟨_, rfl⟩
      rw [hxl] at a1
      rw [hyl] at b1
      have HXL := Lib.hid hxl
      have HYL := Lib.hid hyl
      obtain ⟨sx, hsx⟩ : ∃ sx : ByteArray, ⟨x.toArray⟩ = sx := ⟨_, rfl⟩
      obtain ⟨sy, hsy⟩ : ∃ sy : ByteArray, ⟨y.toArray⟩ = sy := ⟨_, rfl⟩
      have gI : ((j : Int) < (n : Int)) := by omega
      clear hx hy hxa hyb hxl hyl
      by_cases hxy : x = y
      · have hss : sx = sy := by rw [← hsx, ← hsy, hxy]
        have HXY := Lib.hid hxy
        have HSX := Lib.hid hsx
        have HSY := Lib.hid hsy
        clear hsx hsy hxy
        subst hss
        go_wp2_with fail
        refine wp_region_noPanic ?_
        refine wp_region_any (by kernel_rfl) (anyG_any (S := fun V : World => Below wr.heap.size wr V) (n := 11) _ _ _ _ ?_)
        have hS : Below wr.heap.size wr wr.drew := (Below.refl _ _).drew
        change AnyG _ _ _ _ _ _ 11 (Array.replicate 11 false) _ wr.drew
        refine anyG_take0 (i := 0) (oi := ⟨_, _, _, _, _, _⟩) (v := ?_) rfl (by kernel_rfl) (by kernel_rfl) (by kernel_rfl) (by kernel_rfl) (fun _ _ _ h => h) (Or.inl ⟨by rfl, ?_⟩) hS ?_
        rotate_left
        · (intro w' hSw; skip; go_simp; (try with_reducible rfl))
        try simp only [Act.put, List.setIfInBounds_toArray, List.set_cons_zero, List.set_cons_succ]
        refine anyG_take0 (i := 1) (oi := ⟨_, _, _, _, _, _⟩) (v := ?_) rfl (by kernel_rfl) (by kernel_rfl) (by kernel_rfl) (by kernel_rfl) (fun _ _ _ h => h) (Or.inl ⟨by rfl, ?_⟩) hS ?_
        rotate_left
        · (intro w' hSw; skip; go_simp; (try with_reducible rfl))
        try simp only [Act.put, List.setIfInBounds_toArray, List.set_cons_zero, List.set_cons_succ]
        refine anyG_take0 (i := 2) (oi := ⟨_, _, _, _, _, _⟩) (v := ?_) rfl (by kernel_rfl) (by kernel_rfl) (by kernel_rfl) (by kernel_rfl) (fun _ _ _ h => h) (Or.inl ⟨by rfl, ?_⟩) hS ?_
        rotate_left
        · (intro w' hSw; skip; go_simp; (try with_reducible rfl))
        try simp only [Act.put, List.setIfInBounds_toArray, List.set_cons_zero, List.set_cons_succ]
        refine anyG_take0 (i := 3) (oi := ⟨_, _, _, _, _, _⟩) (v := ?_) rfl (by kernel_rfl) (by kernel_rfl) (by kernel_rfl) (by kernel_rfl) (fun _ _ _ h => h) (Or.inl ⟨by rfl, ?_⟩) hS ?_
        rotate_left
        · (intro w' hSw; have s1 := cell_below hSw a1; go_simp; (try with_reducible rfl))
        try simp only [Act.put, List.setIfInBounds_toArray, List.set_cons_zero, List.set_cons_succ]
        refine anyG_take0 (i := 4) (oi := ⟨_, _, _, _, _, _⟩) (v := ?_) rfl (by kernel_rfl) (by kernel_rfl) (by kernel_rfl) (by kernel_rfl) (fun _ _ _ h => h) (Or.inl ⟨by rfl, ?_⟩) hS ?_
        rotate_left
        · (intro w' hSw; have s2 := conv_str (HXA.out.below hSw) ca2 30 9 5 Try.underlying30 Try.underlying5 Try.underlying9; rw [HXL.out, HSX.out] at s2; go_simp; (try with_reducible rfl))
        try simp only [Act.put, List.setIfInBounds_toArray, List.set_cons_zero, List.set_cons_succ]
        refine anyG_take0 (i := 5) (oi := ⟨_, _, _, _, _, _⟩) (v := ?_) rfl (by kernel_rfl) (by kernel_rfl) (by kernel_rfl) (by kernel_rfl) (fun _ _ _ h => h) (Or.inl ⟨by rfl, ?_⟩) hS ?_
        rotate_left
        · (intro w' hSw; skip; go_simp; (try with_reducible rfl))
        try simp only [Act.put, List.setIfInBounds_toArray, List.set_cons_zero, List.set_cons_succ]
        refine anyG_take0 (i := 6) (oi := ⟨_, _, _, _, _, _⟩) (v := ?_) rfl (by kernel_rfl) (by kernel_rfl) (by kernel_rfl) (by kernel_rfl) (fun _ _ _ h => h) (Or.inl ⟨by rfl, ?_⟩) hS ?_
        rotate_left
        · (intro w' hSw; skip; go_simp; (try with_reducible rfl))
        try simp only [Act.put, List.setIfInBounds_toArray, List.set_cons_zero, List.set_cons_succ]
        refine anyG_take0 (i := 7) (oi := ⟨_, _, _, _, _, _⟩) (v := ?_) rfl (by kernel_rfl) (by kernel_rfl) (by kernel_rfl) (by kernel_rfl) (fun _ _ _ h => h) (Or.inl ⟨by rfl, ?_⟩) hS ?_
        rotate_left
        · (intro w' hSw; skip; go_simp; (try with_reducible rfl))
        try simp only [Act.put, List.setIfInBounds_toArray, List.set_cons_zero, List.set_cons_succ]
        refine anyG_take0 (i := 8) (oi := ⟨_, _, _, _, _, _⟩) (v := ?_) rfl (by kernel_rfl) (by kernel_rfl) (by kernel_rfl) (by kernel_rfl) (fun _ _ _ h => h) (Or.inl ⟨by rfl, ?_⟩) hS ?_
        rotate_left
        · (intro w' hSw; have s3 := cell_below hSw b1; go_simp; (try with_reducible rfl))
        try simp only [Act.put, List.setIfInBounds_toArray, List.set_cons_zero, List.set_cons_succ]
        refine anyG_take0 (i := 9) (oi := ⟨_, _, _, _, _, _⟩) (v := ?_) rfl (by kernel_rfl) (by kernel_rfl) (by kernel_rfl) (by kernel_rfl) (fun _ _ _ h => h) (Or.inl ⟨by rfl, ?_⟩) hS ?_
        rotate_left
        · (intro w' hSw; have s4 := conv_str (HYB.out.below hSw) cb2 30 9 5 Try.underlying30 Try.underlying5 Try.underlying9; rw [HYL.out, HSY.out] at s4; go_simp; (try with_reducible rfl))
        try simp only [Act.put, List.setIfInBounds_toArray, List.set_cons_zero, List.set_cons_succ]
        refine anyG_take0 (i := 10) (oi := ⟨_, _, _, _, _, _⟩) (v := ?_) rfl (by kernel_rfl) (by kernel_rfl) (by kernel_rfl) (by kernel_rfl) (fun _ _ _ h => h) (Or.inl ⟨by rfl, ?_⟩) hS ?_
        rotate_left
        · (intro w' hSw; skip; go_simp; (try with_reducible rfl))
        try simp only [Act.put, List.setIfInBounds_toArray, List.set_cons_zero, List.set_cons_succ]
        refine anyG_done (by kernel_rfl) ?_
        refine NoPanic.normal ?_
        go_wp2_with fail
        go_roundw
        case rel => exact ⟨j + 1, hlt, by go_num, HBR.out.trans (hS.mono HBR.out.size), take_eq HTK.out hja hjb (by rw [HX.out, HY.out]; exact HXY.out)⟩
        case measure => simp [intOf]; omega
      · have hss : ¬ sx = sy := fun e => arr_ne hxy (by rw [hsx, hsy]; exact e)
        have hl := tl_f hss
        have hd : decide (es = fs) = false := decide_eq_false fun e => hxy (by subst e; rw [← HX.out, ← HY.out])
        have HD := Lib.hid hd
        have HSX := Lib.hid hsx
        have HSY := Lib.hid hsy
        clear hsx hsy hxy hd
        go_wp2_with fail
        refine wp_region_noPanic ?_
        refine wp_region_any (by kernel_rfl) (anyG_any (S := fun V : World => Below wr.heap.size wr V) (n := 11) _ _ _ _ ?_)
        have hS : Below wr.heap.size wr wr.drew := (Below.refl _ _).drew
        change AnyG _ _ _ _ _ _ 11 (Array.replicate 11 false) _ wr.drew
        refine anyG_take0 (i := 0) (oi := ⟨_, _, _, _, _, _⟩) (v := ?_) rfl (by kernel_rfl) (by kernel_rfl) (by kernel_rfl) (by kernel_rfl) (fun _ _ _ h => h) (Or.inl ⟨by rfl, ?_⟩) hS ?_
        rotate_left
        · (intro w' hSw; skip; go_simp; (try with_reducible rfl))
        try simp only [Act.put, List.setIfInBounds_toArray, List.set_cons_zero, List.set_cons_succ]
        refine anyG_take0 (i := 1) (oi := ⟨_, _, _, _, _, _⟩) (v := ?_) rfl (by kernel_rfl) (by kernel_rfl) (by kernel_rfl) (by kernel_rfl) (fun _ _ _ h => h) (Or.inl ⟨by rfl, ?_⟩) hS ?_
        rotate_left
        · (intro w' hSw; skip; go_simp; (try with_reducible rfl))
        try simp only [Act.put, List.setIfInBounds_toArray, List.set_cons_zero, List.set_cons_succ]
        refine anyG_take0 (i := 2) (oi := ⟨_, _, _, _, _, _⟩) (v := ?_) rfl (by kernel_rfl) (by kernel_rfl) (by kernel_rfl) (by kernel_rfl) (fun _ _ _ h => h) (Or.inl ⟨by rfl, ?_⟩) hS ?_
        rotate_left
        · (intro w' hSw; skip; go_simp; (try with_reducible rfl))
        try simp only [Act.put, List.setIfInBounds_toArray, List.set_cons_zero, List.set_cons_succ]
        refine anyG_take0 (i := 3) (oi := ⟨_, _, _, _, _, _⟩) (v := ?_) rfl (by kernel_rfl) (by kernel_rfl) (by kernel_rfl) (by kernel_rfl) (fun _ _ _ h => h) (Or.inl ⟨by rfl, ?_⟩) hS ?_
        rotate_left
        · (intro w' hSw; have s1 := cell_below hSw a1; go_simp; (try with_reducible rfl))
        try simp only [Act.put, List.setIfInBounds_toArray, List.set_cons_zero, List.set_cons_succ]
        refine anyG_take0 (i := 4) (oi := ⟨_, _, _, _, _, _⟩) (v := ?_) rfl (by kernel_rfl) (by kernel_rfl) (by kernel_rfl) (by kernel_rfl) (fun _ _ _ h => h) (Or.inl ⟨by rfl, ?_⟩) hS ?_
        rotate_left
        · (intro w' hSw; have s2 := conv_str (HXA.out.below hSw) ca2 30 9 5 Try.underlying30 Try.underlying5 Try.underlying9; rw [HXL.out, HSX.out] at s2; go_simp; (try with_reducible rfl))
        try simp only [Act.put, List.setIfInBounds_toArray, List.set_cons_zero, List.set_cons_succ]
        refine anyG_take0 (i := 5) (oi := ⟨_, _, _, _, _, _⟩) (v := ?_) rfl (by kernel_rfl) (by kernel_rfl) (by kernel_rfl) (by kernel_rfl) (fun _ _ _ h => h) (Or.inl ⟨by rfl, ?_⟩) hS ?_
        rotate_left
        · (intro w' hSw; skip; go_simp; (try with_reducible rfl))
        try simp only [Act.put, List.setIfInBounds_toArray, List.set_cons_zero, List.set_cons_succ]
        refine anyG_take0 (i := 6) (oi := ⟨_, _, _, _, _, _⟩) (v := ?_) rfl (by kernel_rfl) (by kernel_rfl) (by kernel_rfl) (by kernel_rfl) (fun _ _ _ h => h) (Or.inl ⟨by rfl, ?_⟩) hS ?_
        rotate_left
        · (intro w' hSw; skip; go_simp; (try with_reducible rfl))
        try simp only [Act.put, List.setIfInBounds_toArray, List.set_cons_zero, List.set_cons_succ]
        refine anyG_take0 (i := 7) (oi := ⟨_, _, _, _, _, _⟩) (v := ?_) rfl (by kernel_rfl) (by kernel_rfl) (by kernel_rfl) (by kernel_rfl) (fun _ _ _ h => h) (Or.inl ⟨by rfl, ?_⟩) hS ?_
        rotate_left
        · (intro w' hSw; skip; go_simp; (try with_reducible rfl))
        try simp only [Act.put, List.setIfInBounds_toArray, List.set_cons_zero, List.set_cons_succ]
        refine anyG_take0 (i := 8) (oi := ⟨_, _, _, _, _, _⟩) (v := ?_) rfl (by kernel_rfl) (by kernel_rfl) (by kernel_rfl) (by kernel_rfl) (fun _ _ _ h => h) (Or.inl ⟨by rfl, ?_⟩) hS ?_
        rotate_left
        · (intro w' hSw; have s3 := cell_below hSw b1; go_simp; (try with_reducible rfl))
        try simp only [Act.put, List.setIfInBounds_toArray, List.set_cons_zero, List.set_cons_succ]
        refine anyG_take0 (i := 9) (oi := ⟨_, _, _, _, _, _⟩) (v := ?_) rfl (by kernel_rfl) (by kernel_rfl) (by kernel_rfl) (by kernel_rfl) (fun _ _ _ h => h) (Or.inl ⟨by rfl, ?_⟩) hS ?_
        rotate_left
        · (intro w' hSw; have s4 := conv_str (HYB.out.below hSw) cb2 30 9 5 Try.underlying30 Try.underlying5 Try.underlying9; rw [HYL.out, HSY.out] at s4; go_simp; (try with_reducible rfl))
        try simp only [Act.put, List.setIfInBounds_toArray, List.set_cons_zero, List.set_cons_succ]
        refine anyG_take0 (i := 10) (oi := ⟨_, _, _, _, _, _⟩) (v := ?_) rfl (by kernel_rfl) (by kernel_rfl) (by kernel_rfl) (by kernel_rfl) (fun _ _ _ h => h) (Or.inl ⟨by rfl, ?_⟩) hS ?_
        rotate_left
        · (intro w' hSw; skip; go_simp; (try with_reducible rfl))
        try simp only [Act.put, List.setIfInBounds_toArray, List.set_cons_zero, List.set_cons_succ]
        refine anyG_done (by kernel_rfl) ?_
        refine NoPanic.normal ?_
        go_wp2_with fail
        go_ret
        rw [HD.out]
        exact ⟨rfl, HBR.out.trans (hS.mono HBR.out.size)⟩
    · obtain rfl : j = n := by omega
      have hab : es = fs := by
        have h1 := HTK.out
        rw [List.take_of_length_le (by rw [HN.out]; exact Nat.le_refl _), List.take_of_length_le (by rw [HK.out]; exact Nat.le_refl _)] at h1
        exact h1
      have hd : decide (es = fs) = true := decide_eq_true hab
      have HD := Lib.hid hd
      have gI : ¬ ((j : Int) < (j : Int)) := by omega
      clear hab hd
      go_wp2_with fail
      go_ret
      rw [HD.out]
      exact ⟨rfl, HBR.out⟩
theorem count_any {lp dp : Nat} {name : ByteArray} {long count : Nat} {tail : List UInt8} {broken : Int} {w : World} (h : LogAt w lp dp name long count tail broken) : Calls Try.prog 11 #[.pointer (some ⟨lp, 0, none⟩)] w fun e w' => e = .returned (.int .i64 (count : Int)) ∧ w = w' := by
  obtain ⟨A, c, h1, -, -⟩ := h.at_
  have c3 : w.cell? ⟨lp, 3, none⟩ = some (.int .i64 (count : Int)) := cell_of (j := 3) h1 rfl
  clear h1 h
  go_enter Try.func11, Try.ntmps11
  go_wp2_with fail
  go_ret
  exact ⟨rfl, rfl⟩
theorem count_nil (w : World) : Calls Try.prog 11 #[.pointer none] w fun e w' => e = .returned (.int .i64 0) ∧ w = w' := by
  go_enter Try.func11, Try.ntmps11
  go_wp2_with fail
  go_ret
  exact ⟨rfl, rfl⟩
set_option maxRecDepth 100000 in
theorem append_nil (v : Value) (w : World) : Calls Try.prog 8 #[.pointer none, v] w fun e w' => e = .returned (.int .i64 1) ∧ Below w.heap.size w w' := by
  go_enter Try.func8, Try.ntmps8
  go_wp2_with fail
  go_ret
  exact ⟨rfl, one_below _ _⟩
set_option maxRecDepth 100000 in
theorem open_nil (name : ByteArray) (w : World) : Calls Try.prog 7 #[.pointer none, .string name] w fun e w' => e = .returned (.tuple #[.pointer none, .slice none 0 0, .int .i64 1]) ∧ Below w.heap.size w w' := by
  go_enter Try.func7, Try.ntmps7
  go_wp2_with fail
  refine bodyPost_ret (results_tmp3 rfl _ _ _) rfl ?_
  exact ⟨rfl, (one_below _ _).trans ((one_below _ _).mono (by simp))⟩
theorem row_sum (es : List (List UInt8)) : (rowL es).length = es.length * 4 + (es.map List.length).sum := by
  induction es with
  | nil => rfl
  | cons e es ih =>
    show ((numL e.length 4 ++ e) ++ rowL es).length = _
    rw [List.length_append, List.length_append, numL_len, ih, List.length_cons, List.map_cons, List.sum_cons]
    omega
theorem sum_take {es : List (List UInt8)} {j : Nat} (hj : j < es.length) : ((es.take (j + 1)).map List.length).sum = ((es.take j).map List.length).sum + es[j].length := by
  rw [← List.take_append_getElem hj, List.map_append, List.sum_append]
  simp
theorem sum_take_le (es : List (List UInt8)) (j : Nat) : ((es.take j).map List.length).sum ≤ (es.map List.length).sum := by
  conv => rhs; rw [← List.take_append_drop j es, List.map_append, List.sum_append]
  omega
set_option maxRecDepth 100000 in
set_option maxHeartbeats 4000000 in
theorem size_any {A : Option Addr} {n c : Nat} {es : List (List UInt8)} {vs : List Value} {w : World} (hA : Cells w A vs) (hv : LenVs vs es) (hn : es.length = n) (hnl : n ≤ 1000000000000000) (hs : ∀ e ∈ es, e.length ≤ 1000000000000000) :
    Calls Try.prog 15 #[.slice A n c] w fun e w' => ∃ s : Nat, e = .returned (.int .i64 (s : Int)) ∧ w = w' ∧ s ≤ 6000000000000000 ∧ (s ≤ 20000 → (rowL es).length = s) := by
  have HA := Lib.hid hA
  have HV := Lib.hid hv
  have HN := Lib.hid hn
  have HS := Lib.hid hs
  clear hA hv hn hs
  go_enter Try.func15, Try.ntmps15
  go_wp2_with fail
  go_loop [3, 4] (fun u i => ∃ j s : Nat, j ≤ n ∧ i = .int .i64 j ∧ u = .int .i64 s ∧ s = n * 4 + ((es.take j).map List.length).sum ∧ s ≤ 5000000000020000 ∧ (0 < j → s ≤ 1000000000020000 + n * 4)) (fun _ i => n - (intOf i).toNat)
  case atStart => exact ⟨0, n * 4, Nat.zero_le _, rfl, by simp; omega, by simp, by omega, fun h => absurd h (by omega)⟩
  case round =>
    obtain ⟨j, s, hj, rfl, rfl, hs, hsl, hs2⟩ := hrel
    have HSS := Lib.hid hs
    clear hs
    by_cases hlt : j < n
    · have hkb : j < es.length := by rw [HN.out]; exact hlt
      by_cases hm : s ≤ 20000
      · obtain ⟨ad, B, cb, rfl, hc0⟩ := HV.out.cell HA.out hkb
        have hsz := HS.out _ (List.getElem_mem hkb)
        have hst := sum_take hkb
        obtain ⟨y, hy⟩ : ∃ y, es[j].length = y := ⟨_, rfl⟩
        rw [hy] at hc0 hsz hst
        have HST := Lib.hid hst
        have g1 : decide ((j : Int) < (n : Int)) = true := decide_eq_true (by omega)
        have g2 : decide ((s : Int) ≤ 20000) = true := decide_eq_true (by omega)
        clear hst hy
        go_wp2_with fail
        go_round
        case rel => exact ⟨j + 1, s + y, hlt, by go_num, by go_num, by rw [HST.out, ← Nat.add_assoc, ← HSS.out], by omega, fun _ => by omega⟩
        case measure => simp [intOf]; omega
      · have g1 : decide ((j : Int) < (n : Int)) = true := decide_eq_true (by omega)
        have g2 : decide ((s : Int) ≤ 20000) = false := decide_eq_false (by omega)
        go_wp2_with fail
        go_ret
        exact ⟨s, rfl, rfl, by omega, fun h => absurd h hm⟩
    · have g1 : decide ((j : Int) < (n : Int)) = false := decide_eq_false (by omega)
      have HE := Lib.hid (show (rowL es).length = s from by
        have h1 := HSS.out
        rw [List.take_of_length_le (by rw [HN.out]; omega)] at h1
        rw [row_sum, HN.out, h1])
      go_wp2_with fail
      go_ret
      exact ⟨s, rfl, rfl, by omega, fun _ => HE.out⟩
end Go.Proofs.Ytladknjmoahdoaa

set_option linter.all false
namespace Go.Proofs.Ytladknjmoahdoaa
open Go.RowKit Go

theorem LogAt.fr {w w' : World} {lp dp dp2 : Nat} {F : List Nat} {d : DiskT} {name : ByteArray} {long count : Nat} {tail : List UInt8} {broken : Int} (h : LogAt w lp dp name long count tail broken) (hd : DkO w dp2 F d) (hf : Fr F w w') (hlp : lp ∉ F) : LogAt w' lp dp name long count tail broken := by
  obtain ⟨A, c, h1, h2, h3⟩ := h.at_
  exact ⟨A, c, hf.kept hlp h1, h2, h3.kept (hd.u8 hf)⟩
theorem bytes_new (w : World) (l : List UInt8) : BytesAt (w.alloc (.cells (bv l).toArray 5)) (some ⟨w.heap.size, 0, none⟩) l := by
  refine ⟨fun _ => ⟨_, rfl, fun j u hj => ?_⟩, fun ad e => ?_⟩
  · have h1 := cell_of (j := j) (Go.heap_alloc_new w (.cells (bv l).toArray 5)) (by simpa using hj)
    have e : Addr.add ⟨w.heap.size, 0, none⟩ j = ⟨w.heap.size, j, none⟩ := by cases j <;> simp [Addr.add]
    rw [e]
    exact h1
  · injection e with e
    subst e
    exact ⟨_, _, Go.heap_alloc_new w _⟩
theorem EntVs.two {w : World} {A B : Option Addr} {c c' : Nat} {e f : List UInt8} {n k : Nat} (hn : e.length = n) (hk : f.length = k) (h1 : BytesAt w A e) (h2 : BytesAt w B f) (hc : n ≤ c) (hc' : k ≤ c') : EntVs w [.slice A n c, .slice B k c'] [e, f] := by
  subst hn hk
  refine ⟨rfl, fun j hj => ?_⟩
  match j, hj with
  | 0, _ => exact ⟨A, c, rfl, hc, h1⟩
  | 1, _ => exact ⟨B, c', rfl, hc', h2⟩
theorem EntVs.one_ {w : World} {A : Option Addr} {c : Nat} {e : List UInt8} {n : Nat} (hn : e.length = n) (h1 : BytesAt w A e) (hc : n ≤ c) : EntVs w [.slice A n c] [e] := by
  subst hn
  refine ⟨rfl, fun j hj => ?_⟩
  match j, hj with
  | 0, _ => exact ⟨A, c, rfl, hc, h1⟩
theorem NewFp.ge {S B : Nat} {F F' : List Nat} (h : NewFp S F F') (hF : ∀ i ∈ F, B ≤ i) (hS : B ≤ S) : ∀ i ∈ F', B ≤ i := fun i hi => (h i hi).elim (hF i) fun h2 => Nat.le_trans hS h2
def fB : ByteArray := { data := #[102] }
def log0 : LogT := ⟨0, 0, [], 0⟩
def wl1 : DiskT := (openL (newD 9) fB).2.1
def wlE : List (List UInt8) := [[1, 2], []]
def wl2 : DiskT := (appendL wl1 fB log0 wlE).2.1
def wlL : LogT := (appendL wl1 fB log0 wlE).2.2
def wlP : PageT := padP (rowL wlE)
theorem wl_f1 : openL (newD 9) fB = (0, wl1, some ⟨0, [], []⟩) := by kernel_rfl
theorem wl_f2 : appendL wl1 fB log0 wlE = (0, wl2, wlL) := by kernel_rfl
theorem wl_f3 : openL wl2 fB = (0, wl2, some ⟨10, rowL wlE, wlE⟩) := by kernel_rfl
theorem wl_f4 : readD wl2 fB 1 = (0, some wlP) := by kernel_rfl
theorem wl_f5 : wlL = ⟨10, 2, rowL wlE, 0⟩ := by kernel_rfl
theorem wl_f6 : wlP.b.take 11 = [0, 0, 0, 2, 1, 2, 0, 0, 0, 0, 0] := by kernel_rfl
theorem wl_s : wl1.steps = 3 ∧ wl2.steps = 7 := ⟨by kernel_rfl, by kernel_rfl⟩
theorem wl_r : (rowL wlE).length = 10 := by kernel_rfl
theorem wl_facts : ∃ (d1 d2 : DiskT) (row : List UInt8) (pg : PageT) (es : List (List UInt8)), openL (newD 9) fB = (0, d1, some ⟨0, [], []⟩) ∧ appendL d1 fB log0 es = (0, d2, ⟨10, 2, row, 0⟩) ∧ openL d2 fB = (0, d2, some ⟨10, row, es⟩) ∧ readD d2 fB 1 = (0, some pg) ∧
    pg.b.take 11 = [0, 0, 0, 2, 1, 2, 0, 0, 0, 0, 0] ∧ d1.steps ≤ 10 ∧ d2.steps ≤ 10 ∧ es = [[1, 2], []] ∧ (rowL es).length ≤ 100 :=
  ⟨wl1, wl2, rowL wlE, wlP, wlE, wl_f1, by rw [wl_f2, wl_f5], wl_f3, wl_f4, wl_f6, by rw [wl_s.1]; decide, by rw [wl_s.2]; decide, rfl, by rw [wl_r]; decide⟩
set_option maxRecDepth 100000 in
set_option maxHeartbeats 8000000 in
theorem works_any (w : World) : Calls Try.prog 14 #[] w fun e w' => e = .returned (.bool true) ∧ Below w.heap.size w w' := by
  obtain ⟨d1, d2, row, pg, es, w1, w2, w3, w4, w5, w6, w7, w8, w9⟩ := wl_facts
  have W1 := Lib.hid w1
  have W2 := Lib.hid w2
  have W3 := Lib.hid w3
  have W4 := Lib.hid w4
  have W5 := Lib.hid w5
  have WS := Lib.hid (And.intro w6 (And.intro w7 (And.intro w8 w9)))
  have HN0 := Lib.hid (fun V => new_o 9 V)
  obtain ⟨d0, hd0⟩ : ∃ d0, newD 9 = d0 := ⟨_, rfl⟩
  rw [hd0] at W1
  simp only [hd0] at HN0
  have HS0 := Lib.hid (show d0.steps ≤ 10 from by rw [← hd0]; decide)
  clear w1 w2 w3 w4 w5 w6 w7 w8 w9 hd0
  go_enter Try.func14, Try.ntmps14
  go_wp2_with fail
  refine (HN0.out _).mono ?_
  rintro e w1 ⟨p, F0, rfl, h1, hb1, hlo⟩
  have HB1 := Lib.hid hb1
  have HLO := Lib.hid hlo
  have HD0 := Lib.hid h1
  clear h1 hb1 hlo HN0
  go_wp2_with fail
  refine (open_any (d := d0) (name := fB) HD0.out (Nat.le_trans HS0.out (by decide))).mono ?_
  rintro e w2 hP
  rw [W1.out] at hP
  obtain ⟨F1, hL, lp, v, vs, rfl, hlp, hlf, hown, hev, hla⟩ := hP
  obtain ⟨Av, cv, hv, -, -⟩ := own_shape hown
  dsimp only at hv hla hL
  rw [show ([] : List (List UInt8)).length = 0 from rfl] at hv hla
  subst hv
  have HL1 := Lib.hid hL
  have HLF := Lib.hid hlf
  have HLA := Lib.hid (show LogAt w2 lp p fB log0.long log0.count log0.tail log0.broken from hla)
  have HLP := Lib.hid hlp
  clear hL hlp hlf hown hev hla
  go_wp2_with fail
  have hb2 : Below w2.heap.size w2 ((w2.alloc (.cells #[.int .u8 1, .int .u8 2] 5)).alloc (.cells #[.slice (some ⟨w2.heap.size, 0, none⟩) 2 2, .slice none 0 0] 30)) := (one_below _ _).trans ((one_below _ _).mono (by simp))
  have hby : BytesAt ((w2.alloc (.cells #[.int .u8 1, .int .u8 2] 5)).alloc (.cells #[.slice (some ⟨w2.heap.size, 0, none⟩) 2 2, .slice none 0 0] 30)) (some ⟨w2.heap.size, 0, none⟩) [1, 2] := (bytes_new w2 [1, 2]).kept (U8Kept.below (one_below _ _))
  have hcl : Cells ((w2.alloc (.cells #[.int .u8 1, .int .u8 2] 5)).alloc (.cells #[.slice (some ⟨w2.heap.size, 0, none⟩) 2 2, .slice none 0 0] 30)) (some ⟨w2.heap.size + 1, 0, none⟩) [.slice (some ⟨w2.heap.size, 0, none⟩) 2 2, .slice none 0 0] := by
    have h := fresh_cells (w2.alloc (.cells #[.int .u8 1, .int .u8 2] 5)) #[.slice (some ⟨w2.heap.size, 0, none⟩) 2 2, .slice none 0 0] 30
    rw [World.size_alloc] at h
    exact h
  have hev : EntVs ((w2.alloc (.cells #[.int .u8 1, .int .u8 2] 5)).alloc (.cells #[.slice (some ⟨w2.heap.size, 0, none⟩) 2 2, .slice none 0 0] 30)) [.slice (some ⟨w2.heap.size, 0, none⟩) 2 2, .slice none 0 0] es := by
    rw [WS.out.2.2.1]
    exact EntVs.two rfl rfl hby (BytesAt.nil _) (Nat.le_refl _) (Nat.le_refl _)
  have hel : es.length = 2 := by rw [WS.out.2.2.1]; rfl
  refine (append_any (d := d1) (name := fB) (l := log0) (es := es) (HL1.out.at_.below hb2) (Nat.le_trans WS.out.1 (by decide)) (HLA.out.below hb2) HLF.out rfl (Nat.zero_le _) (Nat.zero_le _) hcl hev.c hel (Nat.le_trans WS.out.2.2.2 (by decide))).mono ?_
  rw [W2.out]
  rintro e w3 ⟨rfl, F2, hd3, hf3, hn3, hl3, hla3⟩
  dsimp only at hd3 hla3
  have HF3 := Lib.hid ((Fr.below hb2).and hf3)
  have HD3 := Lib.hid hd3
  have HL3 := Lib.hid hl3
  have HN3 := Lib.hid hn3
  have HLA3 := Lib.hid hla3
  clear hb2 hby hcl hd3 hf3 hl3 hla3 hev hel hn3
  go_wp2_with fail
  refine (open_any (d := d2) (name := fB) HD3.out (Nat.le_trans WS.out.2.1 (by decide))).mono ?_
  rintro e w4 hP
  rw [W3.out] at hP
  obtain ⟨F4, hL, lp2, v2, vs2, rfl, hlp2, hlf2, hown2, hev2, hla2⟩ := hP
  dsimp only at hown2 hev2 hla2 hL
  have hel : es.length = 2 := by rw [WS.out.2.2.1]; rfl
  obtain ⟨A2, c2, hv2, -, hcl2⟩ := own_shape hown2
  rw [hel] at hv2
  subst hv2
  have HEL := Lib.hid hel
  have HL4 := Lib.hid hL
  have HLA4 := Lib.hid (HLA3.out.fr HD3.out hL.fr HL3.out)
  have HCL2 := Lib.hid hcl2
  have HEV2 := Lib.hid hev2
  clear hL hlp2 hlf2 hown2 hev2 hla2 hcl2 hel
  go_wp2_with fail
  refine (HL4.out.at_.read fB 1).mono ?_
  rw [W4.out]
  rintro e w5 ⟨v, rfl, hR⟩
  obtain ⟨g, rfl, hcp, hb5⟩ := read_bytes hR
  have HCP := Lib.hid hcp
  have HB5 := Lib.hid hb5
  clear hR hcp hb5
  go_wp2_with fail
  refine (count_any (HLA4.out.below HB5.out)).mono ?_
  rintro e w5' ⟨rfl, rfl⟩
  go_wp2_with fail
  have hb6 : Below w5.heap.size w5 (((w5.alloc (.cells #[.int .u8 1, .int .u8 2] 5)).alloc (.cells #[] 5)).alloc (.cells #[.slice (some ⟨w5.heap.size, 0, none⟩) 2 2, .slice (some ⟨w5.heap.size + 1, 0, none⟩) 0 0] 30)) := ((one_below _ _).trans ((one_below _ _).mono (by simp))).trans ((one_below _ _).mono (by simp; omega))
  have hcl : Cells (((w5.alloc (.cells #[.int .u8 1, .int .u8 2] 5)).alloc (.cells #[] 5)).alloc (.cells #[.slice (some ⟨w5.heap.size, 0, none⟩) 2 2, .slice (some ⟨w5.heap.size + 1, 0, none⟩) 0 0] 30)) (some ⟨w5.heap.size + 1 + 1, 0, none⟩) [.slice (some ⟨w5.heap.size, 0, none⟩) 2 2, .slice (some ⟨w5.heap.size + 1, 0, none⟩) 0 0] := by
    have h := fresh_cells ((w5.alloc (.cells #[.int .u8 1, .int .u8 2] 5)).alloc (.cells #[] 5)) #[.slice (some ⟨w5.heap.size, 0, none⟩) 2 2, .slice (some ⟨w5.heap.size + 1, 0, none⟩) 0 0] 30
    rw [World.size_alloc, World.size_alloc] at h
    exact h
  have hby : BytesAt (((w5.alloc (.cells #[.int .u8 1, .int .u8 2] 5)).alloc (.cells #[] 5)).alloc (.cells #[.slice (some ⟨w5.heap.size, 0, none⟩) 2 2, .slice (some ⟨w5.heap.size + 1, 0, none⟩) 0 0] 30)) (some ⟨w5.heap.size, 0, none⟩) [1, 2] := ((bytes_new w5 [1, 2]).kept (U8Kept.below (one_below _ _))).kept (U8Kept.below (one_below _ _))
  have hbn : BytesAt (((w5.alloc (.cells #[.int .u8 1, .int .u8 2] 5)).alloc (.cells #[] 5)).alloc (.cells #[.slice (some ⟨w5.heap.size, 0, none⟩) 2 2, .slice (some ⟨w5.heap.size + 1, 0, none⟩) 0 0] 30)) (some ⟨w5.heap.size + 1, 0, none⟩) [] := by
    have h := (bytes_new (w5.alloc (.cells #[.int .u8 1, .int .u8 2] 5)) []).kept (U8Kept.below (one_below _ (.cells #[.slice (some ⟨w5.heap.size, 0, none⟩) 2 2, .slice (some ⟨w5.heap.size + 1, 0, none⟩) 0 0] 30)))
    rw [World.size_alloc] at h
    exact h
  have hev : EntVs (((w5.alloc (.cells #[.int .u8 1, .int .u8 2] 5)).alloc (.cells #[] 5)).alloc (.cells #[.slice (some ⟨w5.heap.size, 0, none⟩) 2 2, .slice (some ⟨w5.heap.size + 1, 0, none⟩) 0 0] 30)) [.slice (some ⟨w5.heap.size, 0, none⟩) 2 2, .slice (some ⟨w5.heap.size + 1, 0, none⟩) 0 0] es := by
    rw [WS.out.2.2.1]
    exact EntVs.two rfl rfl hby hbn (Nat.le_refl _) (Nat.le_refl _)
  have hb46 : Below w4.heap.size w4 (((w5.alloc (.cells #[.int .u8 1, .int .u8 2] 5)).alloc (.cells #[] 5)).alloc (.cells #[.slice (some ⟨w5.heap.size, 0, none⟩) 2 2, .slice (some ⟨w5.heap.size + 1, 0, none⟩) 0 0] 30)) := HB5.out.trans (hb6.mono HB5.out.size)
  refine (same_any (HCL2.out.below hb46) (HEV2.out.kept (U8Kept.below hb46)).c hcl hev.c HEL.out HEL.out (by decide)).mono ?_
  rintro e w7 ⟨rfl, hb7⟩
  rw [show decide (es = es) = true from decide_eq_true rfl]
  have hb57 : Below w5.heap.size w5 w7 := hb6.trans (hb7.mono hb6.size)
  have hcv := conv_str (P := Try.prog) (w := w7) (A := some ⟨g, 0, none⟩) (l := pg.b.take 11) (by unfold bv; rw [List.map_take]; exact (HCP.out.below hb57).take 11) 256 30 9 5 Try.underlying30 Try.underlying5 Try.underlying9
  rw [W5.out, show ([0, 0, 0, 2, 1, 2, 0, 0, 0, 0, 0] : List UInt8).length = 11 from rfl] at hcv
  have HB57 := Lib.hid hb57
  clear hb6 hcl hby hbn hev hb46 hb7 hb57
  go_wp2_with fail
  go_ret
  have hF1 := HL1.out.new.ge HLO.out HB1.out.size
  have hs12 := Nat.le_trans HB1.out.size HL1.out.fr.size
  have hF2 := HN3.out.ge hF1 (by simp; omega)
  have b2 := HB1.out.trans (HL1.out.fr.toBelowOf HB1.out.size HLO.out)
  have b3 := b2.trans (HF3.out.toBelowOf hs12 fun i hi => by
    rcases List.mem_cons.1 hi with rfl | hi
    · exact Nat.le_trans HB1.out.size HLP.out
    · exact hF1 i hi)
  have b4 := b3.trans (HL4.out.fr.toBelowOf b3.size hF2)
  exact ⟨rfl, b4.trans ((HB5.out.trans (HB57.out.mono HB5.out.size)).mono b4.size)⟩
end Go.Proofs.Ytladknjmoahdoaa
