/- The program's Keys: secrets as they come. · Bind and Revoke, of both sides; what Keys begins with. · The program's Keys. · SameTerms at equal lists; a box of secrets. -/
import Derived.Test.YtaonadgelkdbcaaGreatDoorQ22
import Derived.Test.YtaonadgelkdbcaaGreatDoorQ15
import Derived.Deep.CutBlock
import Derived.Deep.DeepCutAuto
namespace Go.Proofs.YtaonadgelkdbcaaGreatDoor
open Go.RowKit

theorem row_at {w : World} {base : Nat} {E : TypeId} {v : Value} {xs : List Value} (h : Row w base E v xs) {g : Nat} (hg : v.ownBlock = some g) : ∃ cur fr, w.heap[g]? = some (.cells cur E fr) := by
  rcases h with ⟨rfl, _⟩ | ⟨g', off, cap, cur, fr, rfl, -, hh, -⟩
  · cases hg
  · injection hg with hg
    subst hg
    exact ⟨cur, fr, hh⟩
theorem row_ne {w : World} {base : Nat} {E T : TypeId} {v : Value} {xs : List Value} {b : Nat} {cs : Array Value} {z : Nat × Nat} (h : Row w base E v xs) (hb : w.heap[b]? = some (.cells cs T z)) (hE : T ≠ E) : ∀ g, v.ownBlock = some g → g ≠ b := fun g hg e => by
  obtain ⟨cur, fr, hc⟩ := row_at h hg
  subst e
  rw [hb] at hc
  injection hc with hc
  injection hc with h1 h2
  exact hE h2
theorem row_set {w : World} {base : Nat} {E : TypeId} {v : Value} {xs : List Value} (h : Row w base E v xs) (b j : Nat) (u : Value) (hb : ∀ g, v.ownBlock = some g → g ≠ b) : Row (w.setCell ⟨b, j, none⟩ u) base E v xs := by
  rcases h with h | ⟨g, off, cap, cur, fr, rfl, hg, hh, r⟩
  · exact .inl h
  · exact .inr ⟨g, off, cap, cur, fr, rfl, hg, (Below.heap_setCell w ⟨b, j, none⟩ u g (hb g rfl)).trans hh, r⟩
theorem cell_block {w : World} {b j : Nat} {cs : Array Value} {T : TypeId} {v : Value} (h : w.heap[b]? = some (.cells cs T (0, 0))) (hj : cs[j]? = some v) : w.cell? ⟨b, j, none⟩ = some v ∧ w.frozen? ⟨b, j, none⟩ = false := by
  refine ⟨?_, by simp [World.frozen?, h]⟩
  simp only [World.cell?, h]
  simpa using hj
/-- What holds while secrets come: the box of secrets, the first error, the row. -/
structure KInv (w : World) (bf bl : Nat) (s : SecR) (m : Nat) (r : Int × List (List UInt8)) (V : World) : Prop where
  below : Below w.heap.size w V
  vars0 : VarsOk w
  sec : V.heap[w.heap.size]? = some (.cells #[.string s.fund, .string s.rev, .string s.pay, .string s.later, .string s.htlc, .string s.seed] 54 (0, 0))
  fst : V.heap[bf]? = some (.cells #[.int .i64 r.1] 44 (0, 0))
  lst : ∃ (l : List ByteArray) (A : Option Addr) (c : Nat), V.heap[bl]? = some (.cells #[.slice A l.length c] 26 (0, 0)) ∧ Row V w.heap.size 29 (.slice A l.length c) (strs l) ∧ l.length ≤ m ∧ (r.1 = 0 → l = r.2.map bs)
  lo : w.heap.size < bf ∧ w.heap.size < bl ∧ bf ≠ bl
  nil : r.1 ≠ 0 → r.2 = []
theorem KInv.next {w V V' : World} {bf bl : Nat} {s : SecR} {m : Nat} {r : Int × List (List UInt8)} (h : KInv w bf bl s m r V) (hb : Below V.heap.size V V') : KInv w bf bl s m r V' := by
  obtain ⟨l, A, c, h1, h2, h3, h4⟩ := h.lst
  exact ⟨h.below.trans (hb.mono h.below.size), h.vars0, (hb.block _ (lt_of_block h.sec)).trans h.sec, (hb.block _ (lt_of_block h.fst)).trans h.fst, ⟨l, A, c, (hb.block _ (lt_of_block h1)).trans h1, h2.below hb, h3, h4⟩, h.lo, h.nil⟩
theorem KInv.drew {w V : World} {bf bl : Nat} {s : SecR} {m : Nat} {r : Int × List (List UInt8)} (h : KInv w bf bl s m r V) : KInv w bf bl s m r V.drew :=
  ⟨⟨h.below.os, h.below.tape, h.below.output, h.below.size, h.below.block⟩, h.vars0, h.sec, h.fst, h.lst, h.lo, h.nil⟩
theorem KInv.vars {w V : World} {bf bl : Nat} {s : SecR} {m : Nat} {r : Int × List (List UInt8)} (h : KInv w bf bl s m r V) : VarsOk V := h.vars0.below h.below
theorem KInv.cells {w V : World} {bf bl : Nat} {s : SecR} {m : Nat} {r : Int × List (List UInt8)} (h : KInv w bf bl s m r V) :
    V.cell? ⟨w.heap.size, 0, none⟩ = some (.string s.fund) ∧ V.cell? ⟨w.heap.size, 1, none⟩ = some (.string s.rev) ∧ V.cell? ⟨w.heap.size, 2, none⟩ = some (.string s.pay) ∧ V.cell? ⟨w.heap.size, 3, none⟩ = some (.string s.later) ∧ V.cell? ⟨w.heap.size, 4, none⟩ = some (.string s.htlc) ∧ V.cell? ⟨w.heap.size, 5, none⟩ = some (.string s.seed) ∧ V.cell? ⟨bf, 0, none⟩ = some (.int .i64 r.1) :=
  ⟨(cell_block h.sec rfl).1, (cell_block h.sec rfl).1, (cell_block h.sec rfl).1, (cell_block h.sec rfl).1, (cell_block h.sec rfl).1, (cell_block h.sec rfl).1, (cell_block h.fst rfl).1⟩
theorem below_set {B : Nat} {w V : World} (h : Below B w V) {b : Nat} (hb : B ≤ b) (j : Nat) (u : Value) : Below B w (V.setCell ⟨b, j, none⟩ u) :=
  h.trans ⟨rfl, rfl, rfl, by simp [World.setCell], fun i hi => Below.heap_setCell V ⟨b, j, none⟩ u i (fun e => by have : i = b := e; omega)⟩
set_option maxRecDepth 100000 in
set_option maxHeartbeats 8000000 in
theorem add_any {w V : World} {bf bl : Nat} {s : SecR} {m : Nat} {r : Int × List (List UInt8)} (h : KInv w bf bl s m r V) (hm : m ≤ 100) (x : Int × List UInt8) :
    Calls Tryz.prog 33 #[.string (bs x.2), .int .i64 x.1, .pointer (some ⟨bf, 0, none⟩), .pointer (some ⟨bl, 0, none⟩)] V fun e V' => e = .returned (.tuple #[]) ∧ KInv w bf bl s (m + 1) (addE r x) V' := by
  obtain ⟨l, A, c, hl, hrow, hlm, hlr⟩ := h.lst
  obtain ⟨re, rl⟩ := r
  obtain ⟨xe, xs⟩ := x
  have hfst := h.fst
  simp only at hlr hfst
  obtain ⟨q1, f1⟩ := cell_block hfst (j := 0) rfl
  have hlo := h.lo
  by_cases hr : re = 0
  · subst hr
    have hl0 := hlr rfl
    have hS1 : (V.setCell ⟨bf, 0, none⟩ (.int .i64 xe)).heap[w.heap.size]? = _ := (Below.heap_setCell V ⟨bf, 0, none⟩ (.int .i64 xe) w.heap.size (fun e => by have : w.heap.size = bf := e; omega)).trans h.sec
    have hF1 : (V.setCell ⟨bf, 0, none⟩ (.int .i64 xe)).heap[bf]? = _ := setCell_cells hfst 0 (.int .i64 xe)
    have hL1 : (V.setCell ⟨bf, 0, none⟩ (.int .i64 xe)).heap[bl]? = _ := (Below.heap_setCell V ⟨bf, 0, none⟩ (.int .i64 xe) bl (fun e => hlo.2.2 (show bl = bf from e).symm)).trans hl
    have hR1 := row_set hrow bf 0 (.int .i64 xe) (row_ne hrow hfst (by decide))
    have hB1 := below_set h.below (Nat.le_of_lt hlo.1) 0 (.int .i64 xe)
    obtain ⟨q2, f2⟩ := cell_block hL1 (j := 0) rfl
    have HS1 := Lib.hid hS1
    have HF1 := Lib.hid hF1
    have HL1 := Lib.hid hL1
    have HR1 := Lib.hid hR1
    have HB1 := Lib.hid hB1
    have HH := Lib.hid h
    have HL0 := Lib.hid hl0
    have HSL := Lib.hid (show (strs l).length = l.length by unfold strs; rw [List.length_map])
    have hll : l.length ≤ 100 := by omega
    have HLM := Lib.hid hlm
    have HXS := Lib.hid (show strs l ++ [Value.string (bs xs)] = strs (l ++ [bs xs]) by unfold strs; rw [List.map_append]; rfl)
    have HLEN := Lib.hid (show (strs l ++ [Value.string (bs xs)]).length = l.length + 1 by rw [List.length_append, HSL.out]; rfl)
    have HLO := Lib.hid hlo
    clear hS1 hF1 hL1 hR1 hB1 h hl0 hl hrow hlm hlr hfst f2 hlo
    go_enter Tryz.func33, Tryz.ntmps33
    go_wp2_with (at_builtin
                 refine wpList_row1 slTerm1 rfl (.tmp 9) (.tmp 11) rfl w.heap.size (.slice A l.length c) (strs l) (by rfl) HR1.out (.string (bs xs)) (by show Value.slice (some ⟨V.heap.size, 0, none⟩) 1 1 = Value.slice (some ⟨(V.setCell ⟨bf, 0, none⟩ (.int .i64 xe)).heap.size, 0, none⟩) 1 1; rw [show (V.setCell ⟨bf, 0, none⟩ (.int .i64 xe)).heap.size = V.heap.size by simp [World.setCell]]) (by rfl) (by rw [HSL.out]; omega) (by rw [HSL.out]; omega) HB1.out.size ?_
                 intro v6 w6 hr6 hg6 hb6 hat6
                 obtain ⟨A6, c6, hv6, -, -⟩ := Row.shape hr6
                 rw [HLEN.out] at hv6
                 subst hv6
                 rw [HXS.out] at hr6
                 have hL6 := (hg6.block bl (lt_of_block HL1.out) (fun e => row_ne HR1.out HL1.out (by decide) bl e.symm rfl)).trans HL1.out
                 have hF6 := (hg6.block bf (lt_of_block HF1.out) (fun e => row_ne HR1.out HF1.out (by decide) bf e.symm rfl)).trans HF1.out
                 have hS6 := (hg6.block w.heap.size (lt_of_block HS1.out) (fun e => row_ne HR1.out HS1.out (by decide) w.heap.size e.symm rfl)).trans HS1.out
                 obtain ⟨q3, f3⟩ := cell_block hL6 (j := 0) rfl
                 have HB6 := Lib.hid (HB1.out.trans hb6)
                 have HR6 := Lib.hid hr6
                 have HL6 := Lib.hid hL6
                 have HF6 := Lib.hid hF6
                 have HS6 := Lib.hid hS6
                 clear hr6 hg6 hb6 hat6 hL6 hF6 hS6)
    go_end0
    refine ⟨rfl, ?_⟩
    have hrow7 := row_set HR6.out bl 0 (.slice A6 (l.length + 1) c6) (row_ne HR6.out HL6.out (by decide))
    have hre : (addE (0, rl) (xe, xs)).1 = xe := by
      unfold addE
      rw [if_pos rfl]
      split
      · rename_i he; exact he.symm
      · rfl
    refine ⟨below_set HB6.out (Nat.le_of_lt HLO.out.2.1) 0 _, HH.out.vars0, (Below.heap_setCell w6 ⟨bl, 0, none⟩ _ w.heap.size (fun e => by have : w.heap.size = bl := e; have := HLO.out; omega)).trans HS6.out, ?_, ⟨l ++ [bs xs], A6, c6, ?_, ?_, ?_, ?_⟩, HLO.out, fun he => by rw [hre] at he; rw [addE_err (x := (xe, xs)) he]⟩
    · rw [hre]
      exact (Below.heap_setCell w6 ⟨bl, 0, none⟩ _ bf (fun e => HLO.out.2.2 (show bf = bl from e))).trans HF6.out
    · have hs := setCell_cells HL6.out 0 (.slice A6 (l.length + 1) c6)
      rw [show (l ++ [bs xs]).length = l.length + 1 by simp]
      exact hs
    · rw [show (l ++ [bs xs]).length = l.length + 1 by simp]
      exact hrow7
    · rw [List.length_append]; simp; exact HLM.out
    · intro he
      rw [hre] at he
      subst he
      rw [addE_ok rfl, HL0.out]
      simp
  · have g : (re == 0) = false := beq_false_of_ne hr
    have HX := Lib.hid (show KInv w bf bl s (m + 1) (addE (re, rl) (xe, xs)) V by
      rw [addE_stop hr]
      exact ⟨h.below, h.vars0, h.sec, h.fst, ⟨l, A, c, hl, hrow, by omega, hlr⟩, h.lo, h.nil⟩)
    clear h hl hrow hlm hlr hfst hlo hr
    go_enter Tryz.func33, Tryz.ntmps33
    go_wp2_with fail
    go_end0
    exact ⟨rfl, HX.out⟩
end Go.Proofs.YtaonadgelkdbcaaGreatDoor

namespace Go.Proofs.YtaonadgelkdbcaaGreatDoor
open Go.RowKit

set_option maxRecDepth 100000 in
set_option maxHeartbeats 8000000 in
theorem kbind_any (x y : ByteArray) (w : World) (hs : x.size ≤ 400000) (hs2 : y.size ≤ 400000) (hv : VarsOk w) : Calls Tryz.prog 35 #[.string x, .string y] w fun e w' => e = .returned (tupE (twoE 75 x.data.toList y.data.toList)) ∧ Below w.heap.size w w' := by
  have hB := tbind_any x y w hs hs2 hv
  obtain ⟨R, hR⟩ : ∃ R, twoE 75 x.data.toList y.data.toList = R := ⟨_, rfl⟩
  rw [hR] at hB ⊢
  unfold tupE at hB ⊢
  have HB := Lib.hid hB
  clear hB hR
  go_enter Tryz.func35, Tryz.ntmps35
  go_wp2_with fail
  refine HB.out.mono ?_
  rintro e w1 ⟨rfl, hb1⟩
  have HB1 := Lib.hid hb1
  clear hb1
  go_wp2_with fail
  go_ret2
  exact ⟨rfl, HB1.out⟩
set_option maxRecDepth 100000 in
set_option maxHeartbeats 8000000 in
theorem krevoke_any (x y : ByteArray) (w : World) (hs : x.size ≤ 400000) (hs2 : y.size ≤ 400000) (hv : VarsOk w) : Calls Tryz.prog 36 #[.string x, .string y] w fun e w' => e = .returned (tupE (twoE 86 x.data.toList y.data.toList)) ∧ Below w.heap.size w w' := by
  have hB := tjoin_any x y w hs hs2 hv
  obtain ⟨R, hR⟩ : ∃ R, twoE 86 x.data.toList y.data.toList = R := ⟨_, rfl⟩
  rw [hR] at hB ⊢
  unfold tupE at hB ⊢
  have HB := Lib.hid hB
  clear hB hR
  go_enter Tryz.func36, Tryz.ntmps36
  go_wp2_with fail
  refine HB.out.mono ?_
  rintro e w1 ⟨rfl, hb1⟩
  have HB1 := Lib.hid hb1
  clear hb1
  go_wp2_with fail
  go_ret2
  exact ⟨rfl, HB1.out⟩
set_option maxRecDepth 100000 in
set_option maxHeartbeats 8000000 in
theorem r16bind_any (x y : ByteArray) (w : World) (hs : x.size ≤ 400000) (hs2 : y.size ≤ 400000) : Calls Tryz.prog 39 #[.string x, .string y] w fun e w' => e = .returned (tupE (twoE 75 x.data.toList y.data.toList)) ∧ Below w.heap.size w w' := by
  have hB := rtwo_any 75 75 rfl x y w hs hs2
  obtain ⟨R, hR⟩ : ∃ R, twoE 75 x.data.toList y.data.toList = R := ⟨_, rfl⟩
  rw [hR] at hB ⊢
  unfold tupE at hB ⊢
  have HB := Lib.hid hB
  clear hB hR
  go_enter Tryz.func39, Tryz.ntmps39
  go_wp2_with fail
  refine HB.out.mono ?_
  rintro e w1 ⟨rfl, hb1⟩
  have HB1 := Lib.hid hb1
  clear hb1
  go_wp2_with fail
  go_ret2
  exact ⟨rfl, HB1.out⟩
set_option maxRecDepth 100000 in
set_option maxHeartbeats 8000000 in
theorem r16revoke_any (x y : ByteArray) (w : World) (hs : x.size ≤ 400000) (hs2 : y.size ≤ 400000) : Calls Tryz.prog 40 #[.string x, .string y] w fun e w' => e = .returned (tupE (twoE 86 x.data.toList y.data.toList)) ∧ Below w.heap.size w w' := by
  have hB := rtwo_any 86 86 rfl x y w hs hs2
  obtain ⟨R, hR⟩ : ∃ R, twoE 86 x.data.toList y.data.toList = R := ⟨_, rfl⟩
  rw [hR] at hB ⊢
  unfold tupE at hB ⊢
  have HB := Lib.hid hB
  clear hB hR
  go_enter Tryz.func40, Tryz.ntmps40
  go_wp2_with fail
  refine HB.out.mono ?_
  rintro e w1 ⟨rfl, hb1⟩
  have HB1 := Lib.hid hb1
  clear hb1
  go_wp2_with fail
  go_ret2
  exact ⟨rfl, HB1.out⟩
theorem keys_start {w w1 : World} {s : SecR} (hb : Below w.heap.size w w1) (hlt : w.heap.size < w1.heap.size) (hs : w1.heap[w.heap.size]? = some (.cells #[.string s.fund, .string s.rev, .string s.pay, .string s.later, .string s.htlc, .string s.seed] 54 (0, 0))) (hv : VarsOk w) :
    KInv w (w1.heap.size + 1 + 1) (w1.heap.size + 1) s 1 (0, [s.pay.data.toList]) (((w1.alloc (.cells #[.string s.pay] 29)).alloc (.cells #[.slice (some ⟨w1.heap.size, 0, none⟩) 1 1] 26)).alloc (.cells #[.int .i64 0] 44)) := by
  have b1 : Below w1.heap.size w1 (w1.alloc (.cells #[.string s.pay] 29)) := (Below.refl _ _).alloc (Nat.le_refl _) _
  have h1 := Go.heap_alloc_new w1 (.cells #[.string s.pay] 29)
  have z1 : (w1.alloc (.cells #[.string s.pay] 29)).heap.size = w1.heap.size + 1 := by simp
  generalize w1.alloc (.cells #[.string s.pay] 29) = w2 at b1 h1 z1 ⊢
  have b2 : Below w2.heap.size w2 (w2.alloc (.cells #[.slice (some ⟨w1.heap.size, 0, none⟩) 1 1] 26)) := (Below.refl _ _).alloc (Nat.le_refl _) _
  have h2 := Go.heap_alloc_new w2 (.cells #[.slice (some ⟨w1.heap.size, 0, none⟩) 1 1] 26)
  have z2 : (w2.alloc (.cells #[.slice (some ⟨w1.heap.size, 0, none⟩) 1 1] 26)).heap.size = w1.heap.size + 1 + 1 := by simp [z1]
  rw [z1] at h2
  generalize w2.alloc (.cells #[.slice (some ⟨w1.heap.size, 0, none⟩) 1 1] 26) = w3 at b2 h2 z2 ⊢
  have b3 : Below w3.heap.size w3 (w3.alloc (.cells #[.int .i64 0] 44)) := (Below.refl _ _).alloc (Nat.le_refl _) _
  have h3 := Go.heap_alloc_new w3 (.cells #[.int .i64 0] 44)
  rw [z2] at h3
  have b13 := b1.trans ((b2.trans (b3.mono b2.size)).mono b1.size)
  have g1 := ((b2.trans (b3.mono b2.size)).block _ (lt_of_block h1)).trans h1
  have g2 := (b3.block _ (lt_of_block h2)).trans h2
  refine ⟨hb.trans (b13.mono hb.size), hv, (b13.block _ hlt).trans hs, h3, ⟨[s.pay], some ⟨w1.heap.size, 0, none⟩, 1, g2, .inr ⟨w1.heap.size, 0, 1, #[.string s.pay], (0, 0), rfl, by omega, g1, Free.none _, by simp [strs], by unfold maxLen; omega, by simp, rfl⟩, by simp, fun _ => by simp [bs_of]⟩, ⟨by omega, by omega, by omega⟩, fun h => absurd rfl h⟩
end Go.Proofs.YtaonadgelkdbcaaGreatDoor

namespace Go.Proofs.YtaonadgelkdbcaaGreatDoor
open Go.RowKit

def secV (s : SecR) : Value := .agg #[.string s.fund, .string s.rev, .string s.pay, .string s.later, .string s.htlc, .string s.seed]
theorem keys2_err {s : SecR} {told : List UInt8} {r : Int × List (List UInt8)} (h : r.1 ≠ 0) : keys2 s told r = r := by
  unfold keys2
  split
  · rfl
  · rw [addE_stop h, if_neg h]
theorem keys3_err {s : SecR} {point : List UInt8} {r : Int × List (List UInt8)} (h : r.1 ≠ 0) : keys3 s point r = r := by
  unfold keys3
  split
  · rfl
  · rw [addE_stop h]
/-- What Keys tells. -/
def KeysP (R : Int × List (List UInt8)) (w : World) (e : Ending) (w' : World) : Prop :=
  ∃ (A : Option Addr) (c : Nat), e = .returned (.tuple #[.slice A (R.2.map bs).length c, .int .i64 R.1]) ∧ Cells w' A (strs (R.2.map bs)) ∧ Below w.heap.size w w'
theorem pointE_len (seed : List UInt8) (n : Int) : (pointE seed n).2.length ≤ 16384 := by
  rw [pointE_reveal]
  split
  · exact pubE_len _
  · simp
theorem KInv.more {w V : World} {bf bl : Nat} {s : SecR} {m m' : Nat} {r : Int × List (List UInt8)} (h : KInv w bf bl s m r V) (hm : m ≤ m') : KInv w bf bl s m' r V := by
  obtain ⟨l, A, c, h1, h2, h3, h4⟩ := h.lst
  exact ⟨h.below, h.vars0, h.sec, h.fst, ⟨l, A, c, h1, h2, Nat.le_trans h3 hm, h4⟩, h.lo, h.nil⟩
theorem pointE_err {seed : List UInt8} {n : Int} (h : (pointE seed n).1 ≠ 0) : (pointE seed n).2 = [] := by
  rw [pointE_reveal] at h ⊢
  split
  · rename_i h0
    rw [if_pos h0] at h
    exact pubE_err h
  · rfl
theorem tup_bs (x : Int × List UInt8) : tupE x = .tuple #[.string (bs x.2), .int .i64 x.1] := rfl
theorem str_ne {t : ByteArray} : (t.data.toList = []) ↔ t.toList = [] := by rw [Go.ByteArray.toList_eq]
set_option maxRecDepth 100000 in
set_option maxHeartbeats 8000000 in
theorem akeys_any (s : SecR) (tag mine : Int) (told point : ByteArray) (w : World) (zr : s.rev.size ≤ 400000) (zp : s.pay.size ≤ 400000) (zl : s.later.size ≤ 400000) (zh : s.htlc.size ≤ 400000) (zs : s.seed.size ≤ 400000) (zt : told.size ≤ 400000) (zq : point.size ≤ 400000) (hv : VarsOk w) :
    Calls Tryz.prog 14 #[secV s, .int .i64 tag, .int .i64 mine, .string told, .string point] w (KeysP (keysE s tag mine told.data.toList point.data.toList) w) := by
  have hbA : Below w.heap.size w (w.alloc (.cells #[.string s.fund, .string s.rev, .string s.pay, .string s.later, .string s.htlc, .string s.seed] 54)) := (Below.refl _ _).alloc (Nat.le_refl _) _
  have s0 : (w.alloc (.cells #[.string s.fund, .string s.rev, .string s.pay, .string s.later, .string s.htlc, .string s.seed] 54)).heap[w.heap.size]? = some (.cells #[.string s.fund, .string s.rev, .string s.pay, .string s.later, .string s.htlc, .string s.seed] 54 (0, 0)) := Go.heap_alloc_new w _
  have hR := right_any s.pay (w.alloc (.cells #[.string s.fund, .string s.rev, .string s.pay, .string s.later, .string s.htlc, .string s.seed] 54)) (by omega) (hv.below hbA)
  obtain ⟨q0, -⟩ := cell_block s0 (j := 0) rfl
  obtain ⟨q1, -⟩ := cell_block s0 (j := 1) rfl
  obtain ⟨q2, -⟩ := cell_block s0 (j := 2) rfl
  obtain ⟨q3, -⟩ := cell_block s0 (j := 3) rfl
  obtain ⟨q4, -⟩ := cell_block s0 (j := 4) rfl
  obtain ⟨q5, -⟩ := cell_block s0 (j := 5) rfl
  have HR := Lib.hid hR
  have HB := Lib.hid hbA
  have HS0 := Lib.hid s0
  have HV := Lib.hid hv
  unfold secV
  obtain ⟨R, hRR⟩ : ∃ R, keysE s tag mine told.data.toList point.data.toList = R := ⟨_, rfl⟩
  rw [hRR]
  have HRR := Lib.hid hRR
  unfold keysE at HRR
  clear hbA s0 hR hv hRR
  cases hq : rightB s.pay.data.toList with
  | false =>
    rw [hq] at HR HRR
    have HRR := Lib.hid (show ((10, []) : Int × List (List UInt8)) = R from HRR.out)
    clear hq
    go_enter Tryz.func14, Tryz.ntmps14
    go_wp2_with fail
    refine HR.out.mono ?_
    rintro e w1 ⟨rfl, hb1⟩
    have HB1 := Lib.hid (HB.out.trans (hb1.mono HB.out.size))
    clear hb1
    go_wp2_with fail
    go_ret2
    rw [← HRR.out]
    exact ⟨none, 0, rfl, Cells.nil _ _, HB1.out⟩
  | true =>
    rw [hq] at HR HRR
    have HRQ := Lib.hid (show keys3 s point.data.toList (keys2 s told.data.toList (keys1 s tag mine (0, [s.pay.data.toList]))) = R from HRR.out)
    clear HRR hq
    go_enter Tryz.func14, Tryz.ntmps14
    go_wp2_with fail
    refine HR.out.mono ?_
    rintro e w1 ⟨rfl, hb1⟩
    have HB1 := Lib.hid (HB.out.trans (hb1.mono HB.out.size))
    have HS1 := Lib.hid ((hb1.block _ (lt_of_block HS0.out)).trans HS0.out)
    obtain ⟨p2, -⟩ := cell_block HS1.out (j := 2) rfl
    clear hb1 q0 q1 q2 q3 q4 q5
    have hlt : w.heap.size < w1.heap.size := lt_of_block HS1.out
    have HI0 := Lib.hid (keys_start HB1.out hlt HS1.out HV.out)
    go_upto_if 29 with fail
    obtain ⟨bl, hbl⟩ : ∃ bl, w1.heap.size + 1 = bl := ⟨_, rfl⟩
    obtain ⟨W, hW⟩ : ∃ W, (((w1.alloc (.cells #[.string s.pay] 29)).alloc (.cells #[.slice (some ⟨w1.heap.size, 0, none⟩) 1 1] 26)).alloc (.cells #[.int .i64 0] 44)) = W := ⟨_, rfl⟩
    rw [hW] at HI0 ⊢
    rw [hbl] at HI0 ⊢
    obtain ⟨bf, hbf⟩ : ∃ bf, bl + 1 = bf := ⟨_, rfl⟩
    rw [hbf] at HI0 ⊢
    clear hW hbl hbf p2 hlt
    obtain ⟨r1, hr1⟩ : ∃ r1, keys1 s tag mine (0, [s.pay.data.toList]) = r1 := ⟨_, rfl⟩
    rw [hr1] at HRQ
    have HR1 := Lib.hid hr1
    clear hr1
    go_cut [15] (fun _ wx => KInv w bf bl s 3 r1 wx)
    case first =>
      by_cases htm : tag = mine
      · have gt : (tag == mine) = true := by rw [htm]; exact beq_self_eq_true _
        obtain ⟨c0, c1, c2, c3, c4, c5, cf⟩ := HI0.out.cells
        have HP := Lib.hid (point_any s mine (by omega) W HI0.out.vars)
        have hpl := pointE_len s.seed.data.toList mine
        have hpe := @pointE_err s.seed.data.toList mine
        have HRa := Lib.hid (show keys1 s tag mine (0, [s.pay.data.toList]) = r1 from HR1.out)
        unfold keys1 at HRa
        rw [if_pos htm] at HRa
        obtain ⟨x, hx⟩ : ∃ x, pointE s.seed.data.toList mine = x := ⟨_, rfl⟩
        rw [hx] at HP hpl hpe HRa
        obtain ⟨pe, ps⟩ := x
        unfold tupE at HP
        clear hx htm
        by_cases h0 : pe = 0
        · subst h0
          have HRb := Lib.hid (show addE (addE (0, [s.pay.data.toList]) (twoE 75 s.later.data.toList ps)) (twoE 75 s.htlc.data.toList ps) = r1 by rw [← HRa.out]; exact (if_pos rfl).symm)
          have HB5 := Lib.hid (fun V hv => kbind_any s.later (bs ps) V zl (by rw [size_bs]; have : ps.length ≤ 16384 := hpl; omega) hv)
          have HB6 := Lib.hid (fun V hv => kbind_any s.htlc (bs ps) V zh (by rw [size_bs]; have : ps.length ≤ 16384 := hpl; omega) hv)
          simp only [bs_list] at HB5 HB6
          obtain ⟨x5, hx5⟩ : ∃ x5, twoE 75 s.later.data.toList ps = x5 := ⟨_, rfl⟩
          obtain ⟨x6, hx6⟩ : ∃ x6, twoE 75 s.htlc.data.toList ps = x6 := ⟨_, rfl⟩
          rw [hx5, hx6] at HRb
          simp only [hx5] at HB5
          simp only [hx6] at HB6
          unfold tupE bs at HB5 HB6
          clear hx5 hx6 hpl hpe
          go_wp2_with fail
          refine HP.out.mono ?_
          rintro e w2 ⟨rfl, hb2⟩
          have HK2 := Lib.hid (HI0.out.next hb2)
          obtain ⟨d0, d1, d2, d3, d4, d5, df⟩ := HK2.out.cells
          clear hb2
          go_wp2_with fail
          refine (HB5.out _ HK2.out.vars).mono ?_
          rintro e w3 ⟨rfl, hb3⟩
          have HK3 := Lib.hid (HK2.out.next hb3)
          clear hb3 d0 d1 d2 d3 d4 d5 df c0 c1 c2 c3 c4 c5 cf
          go_wp2_with fail
          refine (add_any HK3.out (by decide) x5).mono ?_
          rintro e w4 ⟨rfl, hk4⟩
          have HK4 := Lib.hid hk4
          obtain ⟨d0, d1, d2, d3, d4, d5, df⟩ := HK4.out.cells
          clear hk4
          go_wp2_with fail
          refine (HB6.out _ HK4.out.vars).mono ?_
          rintro e w5 ⟨rfl, hb5⟩
          have HK5 := Lib.hid (HK4.out.next hb5)
          clear hb5 d0 d1 d2 d3 d4 d5 df
          go_wp2_with fail
          refine (add_any HK5.out (by decide) x6).mono ?_
          rintro e w6 ⟨rfl, hk6⟩
          have HK6 := Lib.hid hk6
          clear hk6
          go_wp2_with fail
          go_meet
          rw [← HRb.out]
          exact HK6.out
        · have g0 : (pe == 0) = false := beq_false_of_ne h0
          have HRb := Lib.hid (show ((pe, []) : Int × List (List UInt8)) = r1 by rw [← HRa.out]; exact (if_neg h0).symm)
          have h1 : r1.1 ≠ 0 := by rw [← HRb.out]; exact h0
          have HRE := Lib.hid (show R = (pe, []) by rw [← HRQ.out, keys2_err h1, keys3_err h1, ← HRb.out])
          go_wp2_with fail
          refine HP.out.mono ?_
          rintro e w2 ⟨rfl, hb2⟩
          have HK2 := Lib.hid (HI0.out.next hb2)
          clear hb2
          go_wp2_with fail
          go_ret2
          rw [HRE.out]
          exact ⟨none, 0, rfl, Cells.nil _ _, HK2.out.below⟩
      · have gt : (tag == mine) = false := beq_false_of_ne htm
        have HRb := Lib.hid (show (0, [s.pay.data.toList]) = r1 by rw [← HR1.out]; unfold keys1; rw [if_neg htm])
        go_wp2_with fail
        go_meet
        rw [← HRb.out]
        exact HI0.out.more (by decide)
    case rest =>
      have HK3 := Lib.hid hcut
      obtain ⟨c0, c1, c2, c3, c4, c5, cf⟩ := hcut.cells
      clear hcut HI0
      obtain ⟨r2, hr2⟩ : ∃ r2, keys2 s told.data.toList r1 = r2 := ⟨_, rfl⟩
      rw [hr2] at HRQ
      have HR2 := Lib.hid hr2
      clear hr2
      go_upto_region 11 with fail
      go_cut [60] (fun b wx => b = .bool (!decide (told.toList = []) && decide (r1.1 = 0)) ∧ wx = wc)
      case first =>
        by_cases ht : told.toList = []
        · have HT := Lib.hid ht
          go_wp2_with fail
          go_meet
          exact ⟨by rw [decide_eq_true HT.out]; rfl, rfl⟩
        · have HT := Lib.hid ht
          by_cases hr : r1.1 = 0
          · rw [hr] at cf
            go_wp2_with fail
            go_meet
            exact ⟨by rw [decide_eq_false HT.out, decide_eq_true hr]; simp [HT.out], rfl⟩
          · have g : (r1.1 == 0) = false := beq_false_of_ne hr
            have HRN := Lib.hid hr
            clear hr
            go_wp2_with fail
            go_meet
            exact ⟨by rw [decide_eq_false HT.out, decide_eq_false HRN.out]; rfl, rfl⟩
      case rest =>
        obtain ⟨rfl, rfl⟩ := hcut
        go_upto_if 60 with fail
        go_cut [17] (fun _ wx => KInv w bf bl s 5 r2 wx)
        case first =>
          by_cases ht : told.toList = []
          · have HRb := Lib.hid (show r1 = r2 by rw [← HR2.out]; unfold keys2; rw [if_pos (str_ne.2 ht)])
            rw [decide_eq_true ht]
            simp only [Bool.not_true, Bool.false_and]
            go_wp2_with fail
            go_meet
            rw [← HRb.out]
            exact HK3.out.more (by decide)
          · by_cases hr : r1.1 = 0
            · rw [decide_eq_false ht, decide_eq_true hr]
              simp only [Bool.not_false, Bool.true_and]
              have hRV := fun V hv => krevoke_any s.rev told V zr zt hv
              have hPB := fun V hv => pub_any told V (by omega) hv
              have hpl := pubE_len told.data.toList
              have HRc := Lib.hid (show keys2 s told.data.toList r1 = r2 from HR2.out)
              unfold keys2 at HRc
              rw [if_neg (fun h => ht (str_ne.1 h))] at HRc
              obtain ⟨x1, hx1⟩ : ∃ x1, twoE 86 s.rev.data.toList told.data.toList = x1 := ⟨_, rfl⟩
              rw [hx1] at HRc
              simp only [hx1] at hRV
              obtain ⟨x2, hx2⟩ : ∃ x2, pubE told.data.toList = x2 := ⟨_, rfl⟩
              rw [hx2] at HRc hpl
              simp only [hx2] at hPB
              obtain ⟨pe, ps⟩ := x2
              have hBD := fun V hv => kbind_any s.htlc (bs ps) V zh (by rw [size_bs]; have : ps.length ≤ 16384 := hpl; omega) hv
              simp only [bs_list] at hBD
              obtain ⟨x3, hx3⟩ : ∃ x3, twoE 75 s.htlc.data.toList ps = x3 := ⟨_, rfl⟩
              simp only [hx3] at hBD HRc
              unfold tupE at hRV hPB
              unfold tupE bs at hBD
              have HRV := Lib.hid hRV
              have HPB := Lib.hid hPB
              have HBD := Lib.hid hBD
              obtain ⟨ra, hra⟩ : ∃ ra, addE r1 x1 = ra := ⟨_, rfl⟩
              rw [hra] at HRc
              have HRA := Lib.hid hra
              clear hRV hPB hBD hx1 hx2 hx3 hpl hra ht hr
              go_wp2_with fail
              refine (HRV.out _ HK3.out.vars).mono ?_
              rintro e w2 ⟨rfl, hb2⟩
              have HK4 := Lib.hid (HK3.out.next hb2)
              clear hb2 c0 c1 c2 c3 c4 c5 cf
              go_wp2_with fail
              refine (add_any HK4.out (by decide) x1).mono ?_
              rintro e w4 ⟨rfl, hk4⟩
              rw [HRA.out] at hk4
              have HK5 := Lib.hid hk4
              obtain ⟨d0, d1, d2, d3, d4, d5, df⟩ := HK5.out.cells
              clear hk4
              go_wp2_with fail
              refine (HPB.out _ HK5.out.vars).mono ?_
              rintro e w5 ⟨rfl, hb5⟩
              have HK6 := Lib.hid (HK5.out.next hb5)
              clear hb5 d0 d1 d2 d3 d4 d5 df
              obtain ⟨d0, d1, d2, d3, d4, d5, df⟩ := HK6.out.cells
              by_cases hra0 : ra.1 = 0
              · rw [hra0] at df
                by_cases hpe : pe = 0
                · subst hpe
                  have HRd := Lib.hid (show addE ra x3 = r2 by rw [← HRc.out, if_pos hra0]; exact (if_pos rfl).symm)
                  go_wp2_with fail
                  refine (HBD.out _ HK6.out.vars).mono ?_
                  rintro e w7 ⟨rfl, hb7⟩
                  have HK7 := Lib.hid (HK6.out.next hb7)
                  clear hb7 d0 d1 d2 d3 d4 d5 df
                  go_wp2_with fail
                  refine (add_any HK7.out (by decide) x3).mono ?_
                  rintro e w8 ⟨rfl, hk8⟩
                  rw [HRd.out] at hk8
                  have HK8 := Lib.hid hk8
                  clear hk8
                  go_wp2_with fail
                  go_meet
                  exact HK8.out
                · have g0 : (pe == 0) = false := beq_false_of_ne hpe
                  have HRd := Lib.hid (show ((pe, []) : Int × List (List UInt8)) = r2 by rw [← HRc.out, if_pos hra0]; exact (if_neg hpe).symm)
                  have h1 : r2.1 ≠ 0 := by rw [← HRd.out]; exact hpe
                  have HRE := Lib.hid (show R = (pe, []) by rw [← HRQ.out, keys3_err h1, ← HRd.out])
                  clear hpe h1
                  go_wp2_with fail
                  go_ret2
                  rw [HRE.out]
                  exact ⟨none, 0, rfl, Cells.nil _ _, HK6.out.below⟩
              · have g0 : (ra.1 == 0) = false := beq_false_of_ne hra0
                have HRd := Lib.hid (show ra = r2 by rw [← HRc.out, if_neg hra0])
                have HRs := Lib.hid (addE_stop (r := ra) (x := x3) hra0)
                clear hra0
                go_wp2_with fail
                refine (HBD.out _ HK6.out.vars).mono ?_
                rintro e w7 ⟨rfl, hb7⟩
                have HK7 := Lib.hid (HK6.out.next hb7)
                clear hb7 d0 d1 d2 d3 d4 d5 df
                go_wp2_with fail
                refine (add_any HK7.out (by decide) x3).mono ?_
                rintro e w8 ⟨rfl, hk8⟩
                rw [HRs.out, HRd.out] at hk8
                have HK8 := Lib.hid hk8
                clear hk8
                go_wp2_with fail
                go_meet
                exact HK8.out
            · have HRb := Lib.hid (show r1 = r2 by rw [← HR2.out, keys2_err hr])
              rw [decide_eq_false hr]
              simp only [Bool.and_false]
              go_wp2_with fail
              go_meet
              rw [← HRb.out]
              exact HK3.out.more (by decide)
        case rest =>
          have HK8 := Lib.hid hcut
          clear c0 c1 c2 c3 c4 c5 cf
          obtain ⟨c0, c1, c2, c3, c4, c5, cf⟩ := hcut.cells
          clear hcut
          go_upto_if 90 with fail
          go_cut [17] (fun _ wx => KInv w bf bl s 6 R wx)
          case first =>
            by_cases hp : point.toList = []
            · have HRb := Lib.hid (show r2 = R by rw [← HRQ.out]; unfold keys3; rw [if_pos (str_ne.2 hp)])
              rw [show point.toList.isEmpty = true by rw [hp]; rfl]
              simp only [Bool.not_true]
              go_wp2_with fail
              go_meet
              rw [← HRb.out]
              exact HK8.out.more (by decide)
            · have HRb := Lib.hid (show addE r2 (twoE 75 s.htlc.data.toList point.data.toList) = R by rw [← HRQ.out]; unfold keys3; rw [if_neg (fun h => hp (str_ne.1 h))])
              rw [show point.toList.isEmpty = false from List.isEmpty_eq_false_iff.2 hp]
              simp only [Bool.not_false]
              have hBD := fun V hv => kbind_any s.htlc point V zh zq hv
              obtain ⟨x3, hx3⟩ : ∃ x3, twoE 75 s.htlc.data.toList point.data.toList = x3 := ⟨_, rfl⟩
              rw [hx3] at HRb
              simp only [hx3] at hBD
              unfold tupE at hBD
              have HBD := Lib.hid hBD
              clear hBD hx3
              go_wp2_with fail
              refine (HBD.out _ HK8.out.vars).mono ?_
              rintro e w7 ⟨rfl, hb7⟩
              have HK9 := Lib.hid (HK8.out.next hb7)
              clear hb7 c0 c1 c2 c3 c4 c5 cf
              go_wp2_with fail
              refine (add_any HK9.out (by decide) x3).mono ?_
              rintro e w8 ⟨rfl, hk8⟩
              rw [HRb.out] at hk8
              have HKa := Lib.hid hk8
              clear hk8
              go_wp2_with fail
              go_meet
              exact HKa.out
          case rest =>
            have HKZ := Lib.hid hcut
            clear c0 c1 c2 c3 c4 c5 cf
            obtain ⟨c0, c1, c2, c3, c4, c5, cf⟩ := hcut.cells
            obtain ⟨l, A, c, hl, hrow, -, hlr⟩ := hcut.lst
            obtain ⟨cl, -⟩ := cell_block hl (j := 0) rfl
            have HRow := Lib.hid hrow
            have HLR := Lib.hid hlr
            clear hcut hl hrow hlr c0 c1 c2 c3 c4 c5
            by_cases hr : R.1 = 0
            · have g0 := hr
              rw [hr] at cf
              have hle := HLR.out hr
              subst hle
              have HG := Lib.hid g0
              clear g0 hr
              go_wp2_with fail
              go_ret2
              refine ⟨A, c, by rw [HG.out, List.length_map]; rfl, ?_, HKZ.out.below⟩
              obtain ⟨A', c', he, -, hc'⟩ := Row.shape HRow.out
              injection he with h1 h2 h3
              subst h1
              exact hc'
            · have g0 : (R.1 == 0) = false := beq_false_of_ne hr
              have hn := HKZ.out.nil hr
              have HN := Lib.hid hn
              clear hr hn
              go_upto_region 20 with fail
              go_quiet (fail)
              go_wp2_with fail
              go_ret2
              refine ⟨none, 0, by rw [HN.out]; rfl, by rw [HN.out]; exact Cells.nil _ _, ?_⟩
              exact below_drewN HKZ.out.below _
end Go.Proofs.YtaonadgelkdbcaaGreatDoor

namespace Go.Proofs.YtaonadgelkdbcaaGreatDoor
open Go.RowKit

set_option maxRecDepth 100000 in
set_option maxHeartbeats 8000000 in
theorem sameTerms_eq (xs : List ByteArray) (A B : Option Addr) (ca cb : Nat) (w : World) (hx : xs.length ≤ 1000000) (hA : Cells w A (strs xs)) (hB : Cells w B (strs xs)) :
    Calls Tryz.prog 12 #[.slice A xs.length ca, .slice B xs.length cb] w fun e w' => e = .returned (.bool true) ∧ ∃ m, w' = w.drewN m := by
  have HA := Lib.hid hA
  have HB := Lib.hid hB
  clear hA hB
  go_enter Tryz.func12, Tryz.ntmps12
  go_wp2_with fail
  go_loopw [5] (fun i wr => ∃ k m : Nat, k ≤ xs.length ∧ i = .int .i64 (k : Int) ∧ wr = w.drewN m) (fun i _ => xs.length - (intOf i).toNat)
  case atStart => exact ⟨0, 0, Nat.zero_le _, rfl, rfl⟩
  case round =>
    obtain ⟨k, m, hk, rfl, rfl⟩ := hrel
    by_cases hlt : k < xs.length
    · obtain ⟨ad, rfl, c0⟩ := strs_at HA.out hlt
      obtain ⟨bd, rfl, d0⟩ := strs_at HB.out hlt
      generalize xs[k] = x at c0 d0
      go_upto_region 6 with fail
      go_quiet (fail)
      go_wp2_with fail
      go_roundw
      case rel => exact ⟨k + 1, _, by omega, by go_num, rfl⟩
      case measure => simp [intOf]; omega
    · go_wp2_with fail
      go_ret
      exact ⟨rfl, m, rfl⟩
end Go.Proofs.YtaonadgelkdbcaaGreatDoor
