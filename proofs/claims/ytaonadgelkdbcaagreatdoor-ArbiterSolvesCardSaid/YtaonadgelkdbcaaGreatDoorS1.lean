/- The program's Keys: secrets as they come. · SameTerms at equal lists; a box of secrets. -/
import Derived.Test.YtaonadgelkdbcaaGreatDoorQ22
import Derived.Test.YtaonadgelkdbcaaGreatDoorQ15
import Derived.Deep.CutBlock
import Derived.Deep.DeepCutAuto
namespace Go.Proofs.YtaonadgelkdbcaaGreatDoor
open Go.RowKit

theorem row_at {w : World} {base : Nat} {E : TypeId} {v : Value} {xs : List Value} (h : Row w base E v xs) {g : Nat} (hg : v.ownBlock = some g) : ∃ cur fr, w.heap[g]? = some (.cells cur E fr) := by
  rcases h with ⟨rfl, _⟩ | ⟨g', off, cap, cur, fr, rfl, -, hh, -⟩
  · cases hg
  · injection hg with hg
    subst hg
    exact ⟨cur, fr, hh⟩
theorem row_ne {w : World} {base : Nat} {E T : TypeId} {v : Value} {xs : List Value} {b : Nat} {cs : Array Value} {z : Nat × Nat} (h : Row w base E v xs) (hb : w.heap[b]? = some (.cells cs T z)) (hE : T ≠ E) : ∀ g, v.ownBlock = some g → g ≠ b := fun g hg e => by
  obtain ⟨cur, fr, hc⟩ := row_at h hg
  subst e
  rw [hb] at hc
  injection hc with hc
  injection hc with h1 h2
  exact hE h2
theorem row_set {w : World} {base : Nat} {E : TypeId} {v : Value} {xs : List Value} (h : Row w base E v xs) (b j : Nat) (u : Value) (hb : ∀ g, v.ownBlock = some g → g ≠ b) : Row (w.setCell ⟨b, j, none⟩ u) base E v xs := by
  rcases h with h | ⟨g, off, cap, cur, fr, rfl, hg, hh, r⟩
  · exact .inl h
  · exact .inr ⟨g, off, cap, cur, fr, rfl, hg, (Below.heap_setCell w ⟨b, j, none⟩ u g (hb g rfl)).trans hh, r⟩
theorem cell_block {w : World} {b j : Nat} {cs : Array Value} {T : TypeId} {v : Value} (h : w.heap[b]? = some (.cells cs T (0, 0))) (hj : cs[j]? = some v) : w.cell? ⟨b, j, none⟩ = some v ∧ w.frozen? ⟨b, j, none⟩ = false := by
  refine ⟨?_, by simp [World.frozen?, h]⟩
  simp only [World.cell?, h]
  simpa using hj
/-- What holds while secrets come: the box of secrets, the first error, the row. -/
structure KInv (w : World) (bf bl : Nat) (s : SecR) (m : Nat) (r : Int × List (List UInt8)) (V : World) : Prop where
  below : Below w.heap.size w V
  vars0 : VarsOk w
  sec : V.heap[w.heap.size]? = some (.cells #[.string s.fund, .string s.rev, .string s.pay, .string s.later, .string s.htlc, .string s.seed] 54 (0, 0))
  fst : V.heap[bf]? = some (.cells #[.int .i64 r.1] 44 (0, 0))
  lst : ∃ (l : List ByteArray) (A : Option Addr) (c : Nat), V.heap[bl]? = some (.cells #[.slice A l.length c] 26 (0, 0)) ∧ Row V w.heap.size 29 (.slice A l.length c) (strs l) ∧ l.length ≤ m ∧ (r.1 = 0 → l = r.2.map bs)
  lo : w.heap.size < bf ∧ w.heap.size < bl ∧ bf ≠ bl
  nil : r.1 ≠ 0 → r.2 = []
theorem KInv.next {w V V' : World} {bf bl : Nat} {s : SecR} {m : Nat} {r : Int × List (List UInt8)} (h : KInv w bf bl s m r V) (hb : Below V.heap.size V V') : KInv w bf bl s m r V' := by
  obtain ⟨l, A, c, h1, h2, h3, h4⟩ := h.lst
  exact ⟨h.below.trans (hb.mono h.below.size), h.vars0, (hb.block _ (lt_of_block h.sec)).trans h.sec, (hb.block _ (lt_of_block h.fst)).trans h.fst, ⟨l, A, c, (hb.block _ (lt_of_block h1)).trans h1, h2.below hb, h3, h4⟩, h.lo, h.nil⟩
theorem KInv.drew {w V : World} {bf bl : Nat} {s : SecR} {m : Nat} {r : Int × List (List UInt8)} (h : KInv w bf bl s m r V) : KInv w bf bl s m r V.drew :=
  ⟨⟨h.below.os, h.below.tape, h.below.output, h.below.size, h.below.block⟩, h.vars0, h.sec, h.fst, h.lst, h.lo, h.nil⟩
theorem KInv.vars {w V : World} {bf bl : Nat} {s : SecR} {m : Nat} {r : Int × List (List UInt8)} (h : KInv w bf bl s m r V) : VarsOk V := h.vars0.below h.below
theorem KInv.cells {w V : World} {bf bl : Nat} {s : SecR} {m : Nat} {r : Int × List (List UInt8)} (h : KInv w bf bl s m r V) :
    V.cell? ⟨w.heap.size, 0, none⟩ = some (.string s.fund) ∧ V.cell? ⟨w.heap.size, 1, none⟩ = some (.string s.rev) ∧ V.cell? ⟨w.heap.size, 2, none⟩ = some (.string s.pay) ∧ V.cell? ⟨w.heap.size, 3, none⟩ = some (.string s.later) ∧ V.cell? ⟨w.heap.size, 4, none⟩ = some (.string s.htlc) ∧ V.cell? ⟨w.heap.size, 5, none⟩ = some (.string s.seed) ∧ V.cell? ⟨bf, 0, none⟩ = some (.int .i64 r.1) :=
  ⟨(cell_block h.sec rfl).1, (cell_block h.sec rfl).1, (cell_block h.sec rfl).1, (cell_block h.sec rfl).1, (cell_block h.sec rfl).1, (cell_block h.sec rfl).1, (cell_block h.fst rfl).1⟩
theorem below_set {B : Nat} {w V : World} (h : Below B w V) {b : Nat} (hb : B ≤ b) (j : Nat) (u : Value) : Below B w (V.setCell ⟨b, j, none⟩ u) :=
  h.trans ⟨rfl, rfl, rfl, by simp [World.setCell], fun i hi => Below.heap_setCell V ⟨b, j, none⟩ u i (fun e => by have : i = b := e; omega)⟩
set_option maxRecDepth 100000 in
set_option maxHeartbeats 8000000 in
theorem add_any {w V : World} {bf bl : Nat} {s : SecR} {m : Nat} {r : Int × List (List UInt8)} (h : KInv w bf bl s m r V) (hm : m ≤ 100) (x : Int × List UInt8) :
    Calls Tryz.prog 33 #[.string (bs x.2), .int .i64 x.1, .pointer (some ⟨bf, 0, none⟩), .pointer (some ⟨bl, 0, none⟩)] V fun e V' => e = .returned (.tuple #[]) ∧ KInv w bf bl s (m + 1) (addE r x) V' := by
  obtain ⟨l, A, c, hl, hrow, hlm, hlr⟩ := h.lst
  obtain ⟨re, rl⟩ := r
  obtain ⟨xe, xs⟩ := x
  have hfst := h.fst
  simp only at hlr hfst
  obtain ⟨q1, f1⟩ := cell_block hfst (j := 0) rfl
  have hlo := h.lo
  by_cases hr : re = 0
  · subst hr
    have hl0 := hlr rfl
    have hS1 : (V.setCell ⟨bf, 0, none⟩ (.int .i64 xe)).heap[w.heap.size]? = _ := (Below.heap_setCell V ⟨bf, 0, none⟩ (.int .i64 xe) w.heap.size (fun e => by have : w.heap.size = bf := e; omega)).trans h.sec
    have hF1 : (V.setCell ⟨bf, 0, none⟩ (.int .i64 xe)).heap[bf]? = _ := setCell_cells hfst 0 (.int .i64 xe)
    have hL1 : (V.setCell ⟨bf, 0, none⟩ (.int .i64 xe)).heap[bl]? = _ := (Below.heap_setCell V ⟨bf, 0, none⟩ (.int .i64 xe) bl (fun e => hlo.2.2 (show bl = bf from e).symm)).trans hl
    have hR1 := row_set hrow bf 0 (.int .i64 xe) (row_ne hrow hfst (by decide))
    have hB1 := below_set h.below (Nat.le_of_lt hlo.1) 0 (.int .i64 xe)
    obtain ⟨q2, f2⟩ := cell_block hL1 (j := 0) rfl
    have HS1 := Lib.hid hS1
    have HF1 := Lib.hid hF1
    have HL1 := Lib.hid hL1
    have HR1 := Lib.hid hR1
    have HB1 := Lib.hid hB1
    have HH := Lib.hid h
    have HL0 := Lib.hid hl0
    have HSL := Lib.hid (show (strs l).length = l.length by unfold strs; rw [List.length_map])
    have hll : l.length ≤ 100 := by omega
    have HLM := Lib.hid hlm
    have HXS := Lib.hid (show strs l ++ [Value.string (bs xs)] = strs (l ++ [bs xs]) by unfold strs; rw [List.map_append]; rfl)
    have HLEN := Lib.hid (show (strs l ++ [Value.string (bs xs)]).length = l.length + 1 by rw [List.length_append, HSL.out]; rfl)
    have HLO := Lib.hid hlo
    clear hS1 hF1 hL1 hR1 hB1 h hl0 hl hrow hlm hlr hfst f2 hlo
    go_enter Tryz.func33, Tryz.ntmps33
    go_wp2_with (at_builtin
                 refine wpList_row1 slTerm1 rfl (.tmp 9) (.tmp 11) rfl w.heap.size (.slice A l.length c) (strs l) (by rfl) HR1.out (.string (bs xs)) (by show Value.slice (some ⟨V.heap.size, 0, none⟩) 1 1 = Value.slice (some ⟨(V.setCell ⟨bf, 0, none⟩ (.int .i64 xe)).heap.size, 0, none⟩) 1 1; rw [show (V.setCell ⟨bf, 0, none⟩ (.int .i64 xe)).heap.size = V.heap.size by simp [World.setCell]]) (by rfl) (by rw [HSL.out]; omega) (by rw [HSL.out]; omega) HB1.out.size ?_
                 intro v6 w6 hr6 hg6 hb6 hat6
                 obtain ⟨A6, c6, hv6, -, -⟩ := Row.shape hr6
                 rw [HLEN.out] at hv6
                 subst hv6
                 rw [HXS.out] at hr6
                 have hL6 := (hg6.block bl (lt_of_block HL1.out) (fun e => row_ne HR1.out HL1.out (by decide) bl e.symm rfl)).trans HL1.out
                 have hF6 := (hg6.block bf (lt_of_block HF1.out) (fun e => row_ne HR1.out HF1.out (by decide) bf e.symm rfl)).trans HF1.out
                 have hS6 := (hg6.block w.heap.size (lt_of_block HS1.out) (fun e => row_ne HR1.out HS1.out (by decide) w.heap.size e.symm rfl)).trans HS1.out
                 obtain ⟨q3, f3⟩ := cell_block hL6 (j := 0) rfl
                 have HB6 := Lib.hid (HB1.out.trans hb6)
                 have HR6 := Lib.hid hr6
                 have HL6 := Lib.hid hL6
                 have HF6 := Lib.hid hF6
                 have HS6 := Lib.hid hS6
                 clear hr6 hg6 hb6 hat6 hL6 hF6 hS6)
    go_end0
    refine ⟨rfl, ?_⟩
    have hrow7 := row_set HR6.out bl 0 (.slice A6 (l.length + 1) c6) (row_ne HR6.out HL6.out (by decide))
    have hre : (addE (0, rl) (xe, xs)).1 = xe := by
      unfold addE
      rw [if_pos rfl]
      split
      · rename_i he; exact he.symm
      · rfl
    refine ⟨below_set HB6.out (Nat.le_of_lt HLO.out.2.1) 0 _, HH.out.vars0, (Below.heap_setCell w6 ⟨bl, 0, none⟩ _ w.heap.size (fun e => by have : w.heap.size = bl := e; have := HLO.out; omega)).trans HS6.out, ?_, ⟨l ++ [bs xs], A6, c6, ?_, ?_, ?_, ?_⟩, HLO.out, fun he => by rw [hre] at he; rw [addE_err (x := (xe, xs)) he]⟩
    · rw [hre]
      exact (Below.heap_setCell w6 ⟨bl, 0, none⟩ _ bf (fun e => HLO.out.2.2 (show bf = bl from e))).trans HF6.out
    · have hs := setCell_cells HL6.out 0 (.slice A6 (l.length + 1) c6)
      rw [show (l ++ [bs xs]).length = l.length + 1 by simp]
      exact hs
    · rw [show (l ++ [bs xs]).length = l.length + 1 by simp]
      exact hrow7
    · rw [List.length_append]; simp; exact HLM.out
    · intro he
      rw [hre] at he
      subst he
      rw [addE_ok rfl, HL0.out]
      simp
  · have g : (re == 0) = false := beq_false_of_ne hr
    have HX := Lib.hid (show KInv w bf bl s (m + 1) (addE (re, rl) (xe, xs)) V by
      rw [addE_stop hr]
      exact ⟨h.below, h.vars0, h.sec, h.fst, ⟨l, A, c, hl, hrow, by omega, hlr⟩, h.lo, h.nil⟩)
    clear h hl hrow hlm hlr hfst hlo hr
    go_enter Tryz.func33, Tryz.ntmps33
    go_wp2_with fail
    go_end0
    exact ⟨rfl, HX.out⟩
end Go.Proofs.YtaonadgelkdbcaaGreatDoor

namespace Go.Proofs.YtaonadgelkdbcaaGreatDoor
open Go.RowKit

set_option maxRecDepth 100000 in
set_option maxHeartbeats 8000000 in
theorem sameTerms_eq (xs : List ByteArray) (A B : Option Addr) (ca cb : Nat) (w : World) (hx : xs.length ≤ 1000000) (hA : Cells w A (strs xs)) (hB : Cells w B (strs xs)) :
    Calls Tryz.prog 12 #[.slice A xs.length ca, .slice B xs.length cb] w fun e w' => e = .returned (.bool true) ∧ ∃ m, w' = w.drewN m := by
  have HA := Lib.hid hA
  have HB := Lib.hid hB
  clear hA hB
  go_enter Tryz.func12, Tryz.ntmps12
  go_wp2_with fail
  go_loopw [5] (fun i wr => ∃ k m : Nat, k ≤ xs.length ∧ i = .int .i64 (k : Int) ∧ wr = w.drewN m) (fun i _ => xs.length - (intOf i).toNat)
  case atStart => exact ⟨0, 0, Nat.zero_le _, rfl, rfl⟩
  case round =>
    obtain ⟨k, m, hk, rfl, rfl⟩ := hrel
    by_cases hlt : k < xs.length
    · obtain ⟨ad, rfl, c0⟩ := strs_at HA.out hlt
      obtain ⟨bd, rfl, d0⟩ := strs_at HB.out hlt
      generalize xs[k] = x at c0 d0
      go_upto_region 6 with fail
      go_quiet (fail)
      go_wp2_with fail
      go_roundw
      case rel => exact ⟨k + 1, _, by omega, by go_num, rfl⟩
      case measure => simp [intOf]; omega
    · go_wp2_with fail
      go_ret
      exact ⟨rfl, m, rfl⟩
end Go.Proofs.YtaonadgelkdbcaaGreatDoor
