/- The document's join: terms behind others, each once. · The document's ways to open a lock: one signature, one preimage, times. -/
import Derived.Test.YtaonadgelkdbcaaGreatDoorQ15
import Derived.Test.YtaonadgelkdbcaaGreatDoorQ21
namespace Go.Proofs.YtaonadgelkdbcaaGreatDoor
open Go.RowKit

theorem any_take {J : List ByteArray} {p : ByteArray → Bool} {k : Nat} (hk : k < J.length) : (J.take (k + 1)).any p = ((J.take k).any p || p J[k]) := by
  rw [List.take_succ_eq_append_getElem hk, List.any_append]; simp
set_option maxRecDepth 100000 in
set_option maxHeartbeats 8000000 in
theorem rjoin_any (la lb : List ByteArray) (v : Value) (B : Option Addr) (cb base : Nat) (w : World) (h1 : la.length ≤ 100000) (h2 : lb.length ≤ 100000) (hbase : base ≤ w.heap.size) (hv : Row w base 29 v (strs la)) (hB : Cells w B (strs lb)) (hap : Apart B v.ownBlock) :
    Calls Tryz.prog 50 #[v, .slice B lb.length cb] w fun e w' => ∃ v', e = .returned v' ∧ Row w' base 29 v' (strs (joinL la lb)) ∧ w.grownBy w' v.ownBlock ∧ Below base w w' ∧ (v'.ownBlock = v.ownBlock ∨ ∃ g, v'.ownBlock = some g ∧ w.heap.size ≤ g) := by
  have hsl : ∀ l : List ByteArray, (strs l).length = l.length := fun l => by simp [strs]
  obtain ⟨A0, c0, hv0, -, -⟩ := Row.shape hv
  rw [hsl] at hv0
  have HVR := Lib.hid hv
  have HBC := Lib.hid hB
  have HAP := Lib.hid hap
  clear hv hB hap
  subst hv0
  go_enter Tryz.func50, Tryz.ntmps50
  go_wp2_with fail
  go_loopw [5, 0] (fun i a wr => ∃ (k : Nat), k ≤ lb.length ∧ i = .int .i64 (k : Int) ∧ Row wr base 29 a (strs (joinL la (lb.take k))) ∧ w.grownBy wr (Value.slice A0 la.length c0).ownBlock ∧ Below base w wr ∧ (a.ownBlock = (Value.slice A0 la.length c0).ownBlock ∨ ∃ g, a.ownBlock = some g ∧ w.heap.size ≤ g)) (fun i _ _ => lb.length - (intOf i).toNat)
  case atStart => exact ⟨0, Nat.zero_le _, rfl, by rw [List.take_zero]; unfold joinL; exact HVR.out, World.grownBy.refl _ _, Below.refl _ _, .inl rfl⟩
  case round =>
    obtain ⟨k, hk, rfl, hrow, hgr, hbl, hown⟩ := hrel
    obtain ⟨Av, cv, rfl, -, -⟩ := Row.shape hrow
    have HGR := Lib.hid hgr
    have HBL := Lib.hid hbl
    have hjl : (joinL la (lb.take k)).length ≤ 200000 := by have := joinL_len (lb.take k) la; rw [List.length_take] at this; omega
    by_cases hlt : k < lb.length
    · obtain ⟨ad, rfl, hc0⟩ := strs_at (cells_grown HBC.out hgr HAP.out) hlt
      have HT := Lib.hid (joinL_take (a := la) hlt)
      obtain ⟨t, ht⟩ : ∃ t, lb[k] = t := ⟨_, rfl⟩
      rw [ht] at hc0 HT
      obtain ⟨J, hJ⟩ : ∃ J, joinL la (lb.take k) = J := ⟨_, rfl⟩
      rw [hJ] at HT hjl
      have hJlen : (strs (joinL la (lb.take k))).length = J.length := by rw [hsl, hJ]
      rw [hJlen] at hrow hown ⊢
      rw [hJ] at hrow
      have HROW := Lib.hid hrow
      have HOWN := Lib.hid hown
      have HCJ := Lib.hid (row_cells hrow)
      have HC0 := Lib.hid hc0
      clear hrow hgr hbl hown ht hJ hJlen hc0
      go_wp2_with fail
      go_loopw [7, 6] (fun q th wi => ∃ q' m : Nat, q' ≤ J.length ∧ q = .int .i64 (q' : Int) ∧ th = .bool ((J.take q').any (fun x => x.data.toList == t.data.toList)) ∧ wi = wr.drewN m) (fun q _ _ => J.length - (intOf q).toNat)
      case atStart => exact ⟨0, 0, Nat.zero_le _, rfl, by simp, rfl⟩
      case round =>
        obtain ⟨q, m, hq, rfl, rfl, rfl⟩ := hrel
        by_cases hqlt : q < J.length
        · obtain ⟨jd, rfl, hj0⟩ := strs_at HCJ.out hqlt
          have hc1 := HC0.out
          have HAT := Lib.hid (any_take (p := fun x => x.data.toList == t.data.toList) hqlt)
          obtain ⟨x, hx⟩ : ∃ x, J[q] = x := ⟨_, rfl⟩
          rw [hx] at hj0 HAT
          have hst := str_test x t
          obtain ⟨th, hth⟩ : ∃ th, (J.take q).any (fun x => x.data.toList == t.data.toList) = th := ⟨_, rfl⟩
          rw [hth] at HAT ⊢
          clear hx hth
          cases th with
          | true =>
            have HAT := Lib.hid (show (J.take (q + 1)).any (fun x => x.data.toList == t.data.toList) = true by rw [HAT.out]; rfl)
            go_upto_region 8 with fail
            go_quiet (fail)
            go_wp2_with fail
            go_roundw
            case rel => exact ⟨q + 1, _, by omega, by go_num, by rw [HAT.out], rfl⟩
            case measure => simp [intOf]; omega
          | false =>
            have HAT := Lib.hid (show (J.take (q + 1)).any (fun x => x.data.toList == t.data.toList) = (x.toList == t.toList) by rw [HAT.out, hst, Bool.false_or])
            clear hst
            go_upto_region 8 with fail
            go_quiet (fail)
            go_wp2_with fail
            go_roundw
            case rel => exact ⟨q + 1, _, by omega, by go_num, by rw [HAT.out], rfl⟩
            case measure => simp [intOf]; omega
        · have htq : J.take q = J := List.take_of_length_le (by omega)
          rw [htq]
          have hJs := hsl J
          have HSZ := Lib.hid (show base ≤ (wr.drewN m).heap.size from Nat.le_trans hbase HBL.out.size)
          have hc1 := HC0.out
          obtain ⟨th, hth⟩ : ∃ th, J.any (fun x => x.data.toList == t.data.toList) = th := ⟨_, rfl⟩
          rw [hth] at HT ⊢
          clear hth htq
          cases th with
          | true =>
            go_wp2_with fail
            go_roundw
            case rel => exact ⟨k + 1, by omega, by go_num, by rw [HT.out]; exact HROW.out.drewN m, only_drewN HGR.out m, below_drewN HBL.out m, HOWN.out⟩
            case measure => simp [intOf]; omega
          | false =>
            have HROWD := Lib.hid (HROW.out.drewN m)
            go_wp2_with (at_builtin
                         refine wpList_row1 slTerm1 rfl (.tmp 34) (.tmp 39) rfl base (.slice Av J.length cv) (strs J) (by rfl) HROWD.out (.string t) (by rfl) (by rfl) (by rw [hJs]; omega) (by rw [hJs]; omega) HSZ.out ?_
                         intro v6 w6 hr6 hg6 hb6 hat6
                         have HR6 := Lib.hid hr6
                         have HB6 := Lib.hid ((below_drewN HBL.out m).trans hb6)
                         have HG6 := Lib.hid (grown_next (only_drewN HGR.out m) hg6 HOWN.out)
                         have HO6 := Lib.hid (own_next (only_drewN HGR.out m) HOWN.out hat6)
                         clear hr6 hg6 hb6 hat6)
            go_roundw
            case rel =>
              refine ⟨k + 1, by omega, by go_num, ?_, HG6.out, HB6.out, HO6.out⟩
              rw [HT.out]
              have e : strs (J ++ [t]) = strs J ++ [Value.string t] := by simp [strs]
              show Row _ _ _ _ (strs (if false = true then J else J ++ [t]))
              rw [if_neg (by simp), e]
              exact HR6.out
            case measure => simp [intOf]; omega
    · have htk : lb.take k = lb := List.take_of_length_le (by omega)
      rw [htk] at hrow hown ⊢
      have HROW := Lib.hid hrow
      have HOWN := Lib.hid hown
      clear hrow hgr hbl hown hjl htk
      go_wp2_with fail
      go_ret
      exact ⟨_, rfl, HROW.out, HGR.out, HBL.out, HOWN.out⟩
end Go.Proofs.YtaonadgelkdbcaaGreatDoor

namespace Go.Proofs.YtaonadgelkdbcaaGreatDoor
open Go.RowKit

def RClaimAt (w : World) (b : Nat) (a g : Int) (K P : Value) : Prop := w.heap[b]? = some (.cells #[.int .i64 0, .int .i64 0, .int .u8 0, .string ⟨#[]⟩, .int .i64 0, .slice none 0 0, .int .i64 a, .int .i64 g, K, P] 39 (0, 0))
theorem RClaimAt.cells {w : World} {b : Nat} {a g : Int} {K P : Value} (h : RClaimAt w b a g K P) : w.cell? ⟨b, 0, none⟩ = some (.int .i64 0) ∧ w.cell? ⟨b, 1, none⟩ = some (.int .i64 0) ∧ w.cell? ⟨b, 2, none⟩ = some (.int .u8 0) ∧ w.cell? ⟨b, 3, none⟩ = some (.string ⟨#[]⟩) ∧ w.cell? ⟨b, 4, none⟩ = some (.int .i64 0) ∧ w.cell? ⟨b, 5, none⟩ = some (.slice none 0 0) ∧ w.cell? ⟨b, 6, none⟩ = some (.int .i64 a) ∧ w.cell? ⟨b, 7, none⟩ = some (.int .i64 g) ∧ w.cell? ⟨b, 8, none⟩ = some K ∧ w.cell? ⟨b, 9, none⟩ = some P ∧ ∀ j, w.frozen? ⟨b, j, none⟩ = false := by
  unfold RClaimAt at h
  refine ⟨by simp [World.cell?, h], by simp [World.cell?, h], by simp [World.cell?, h], by simp [World.cell?, h], by simp [World.cell?, h], by simp [World.cell?, h], by simp [World.cell?, h], by simp [World.cell?, h], by simp [World.cell?, h], by simp [World.cell?, h], fun j => by simp [World.frozen?, h]⟩
theorem RClaimAt.fr {F : List Nat} {w w' : World} {b : Nat} {a g : Int} {K P : Value} (h : RClaimAt w b a g K P) (hf : Fr F w w') (hb : b ∉ F) : RClaimAt w' b a g K P := (hf.block b (lt_of_block h) hb).trans h
theorem RClaimAt.below {w w' : World} {b : Nat} {a g : Int} {K P : Value} (h : RClaimAt w b a g K P) (hb : Below w.heap.size w w') : RClaimAt w' b a g K P := h.fr (Fr.below (F := []) hb) (by simp)
theorem rput10_at {w : World} {b : Nat} {a g : Int} {K P : Value} (h : RClaimAt w b a g K P) (a' g' : Int) (K' P' : Value) : RClaimAt (put10 w b (.int .i64 0) (.int .i64 0) (.int .u8 0) (.string ⟨#[]⟩) (.int .i64 0) (.slice none 0 0) (.int .i64 a') (.int .i64 g') K' P') b a' g' K' P' :=
  put10_gen h _ _ _ _ _ _ _ _ _ _
theorem row_ne_rclaim {w : World} {base b : Nat} {E : TypeId} {v K P : Value} {xs : List Value} {a g : Int} (h : Row w base E v xs) (hE : E ≠ 39) (hc : RClaimAt w b a g K P) : ∀ i, v.ownBlock = some i → i ≠ b := fun i hg eq => by
  rcases h with ⟨rfl, -⟩ | ⟨g', off, cap, cur, fr, rfl, hb, hh, r⟩
  · cases hg
  · injection hg with hg
    have hg' : g' = i := hg
    subst hg'
    subst eq
    unfold RClaimAt at hc
    rw [hc] at hh
    injection hh with hh
    injection hh with h1 h2
    exact hE h2.symm
/-- A lock's copy in a block. -/
def BoxAt (w : World) (b : Nat) (k : Int) (t : ByteArray) (n : Int) (A : Option Addr) (m cap : Nat) : Prop := w.heap[b]? = some (.cells #[.int .u8 k, .string t, .int .i64 n, .slice A m cap] 32 (0, 0))
theorem BoxAt.cells {w : World} {b : Nat} {k : Int} {t : ByteArray} {n : Int} {A : Option Addr} {m cap : Nat} (h : BoxAt w b k t n A m cap) : w.cell? ⟨b, 0, none⟩ = some (.int .u8 k) ∧ w.cell? ⟨b, 1, none⟩ = some (.string t) ∧ w.cell? ⟨b, 2, none⟩ = some (.int .i64 n) ∧ w.cell? ⟨b, 3, none⟩ = some (.slice A m cap) := by
  unfold BoxAt at h
  exact ⟨by simp [World.cell?, h], by simp [World.cell?, h], by simp [World.cell?, h], by simp [World.cell?, h]⟩
theorem BoxAt.fr {F : List Nat} {w w' : World} {b : Nat} {k : Int} {t : ByteArray} {n : Int} {A : Option Addr} {m cap : Nat} (h : BoxAt w b k t n A m cap) (hf : Fr F w w') (hb : b ∉ F) : BoxAt w' b k t n A m cap := (hf.block b (lt_of_block h) hb).trans h
theorem BoxAt.below {w w' : World} {b : Nat} {k : Int} {t : ByteArray} {n : Int} {A : Option Addr} {m cap : Nat} (h : BoxAt w b k t n A m cap) (hb : Below w.heap.size w w') : BoxAt w' b k t n A m cap := h.fr (Fr.below (F := []) hb) (by simp)
theorem find_step {α : Type} (p : α → Bool) (l : List α) {k : Nat} (hk : k < l.length) : (l.drop k).find? p = if p l[k] then some l[k] else (l.drop (k + 1)).find? p := by
  rw [List.drop_eq_getElem_cons hk, List.find?_cons]
  cases p l[k] <;> rfl
set_option maxRecDepth 100000 in
set_option maxHeartbeats 8000000 in
theorem rway_after (t : ByteArray) (n : Int) (m : Nat) (A : Option Addr) (cap : Nat) (SA PA : Option Addr) (sc pc0 : Nat) (ks ps : List ByteArray) (w : World) :
    Calls Tryz.prog 27 #[.agg #[.int .u8 3, .string t, .int .i64 n, .slice A m cap], .slice SA ks.length sc, .slice PA ps.length pc0] w (WayP (some ⟨n, 0, [], []⟩) w) := by
  have hb0 : Below w.heap.size w (w.alloc (.cells #[.int .u8 3, .string t, .int .i64 n, .slice A m cap] 32)) := (Below.refl _ _).alloc (Nat.le_refl _) _
  have hz : RClaimAt ((w.alloc (.cells #[.int .u8 3, .string t, .int .i64 n, .slice A m cap] 32)).alloc (.cells #[.int .i64 0, .int .i64 0, .int .u8 0, .string ⟨#[]⟩, .int .i64 0, .slice none 0 0, .int .i64 0, .int .i64 0, (.slice none 0 0), (.slice none 0 0)] 39)) (w.heap.size + 1) 0 0 (.slice none 0 0) (.slice none 0 0) := by
    have h := Go.heap_alloc_new (w.alloc (.cells #[.int .u8 3, .string t, .int .i64 n, .slice A m cap] 32)) (.cells #[.int .i64 0, .int .i64 0, .int .u8 0, .string ⟨#[]⟩, .int .i64 0, .slice none 0 0, .int .i64 0, .int .i64 0, (.slice none 0 0), (.slice none 0 0)] 39)
    rw [show (w.alloc (.cells #[.int .u8 3, .string t, .int .i64 n, .slice A m cap] 32)).heap.size = w.heap.size + 1 by simp] at h
    exact h
  have hbx : BoxAt ((w.alloc (.cells #[.int .u8 3, .string t, .int .i64 n, .slice A m cap] 32)).alloc (.cells #[.int .i64 0, .int .i64 0, .int .u8 0, .string ⟨#[]⟩, .int .i64 0, .slice none 0 0, .int .i64 0, .int .i64 0, (.slice none 0 0), (.slice none 0 0)] 39)) w.heap.size 3 t n A m cap := BoxAt.below (show BoxAt (w.alloc (.cells #[.int .u8 3, .string t, .int .i64 n, .slice A m cap] 32)) w.heap.size 3 t n A m cap from Go.heap_alloc_new w _) ((Below.refl _ _).alloc (Nat.le_refl _) _)
  obtain ⟨q0, q1, q2, q3⟩ := hbx.cells
  obtain ⟨z0, z1, z2, z3, z4, z5, z6, z7, z8, z9, zf⟩ := hz.cells
  have HB := Lib.hid (hb0.alloc (by simp) (.cells #[.int .i64 0, .int .i64 0, .int .u8 0, .string ⟨#[]⟩, .int .i64 0, .slice none 0 0, .int .i64 n, .int .i64 0, (.slice none 0 0), (.slice none 0 0)] 39))
  clear hz hb0 hbx
  go_enter Tryz.func27, Tryz.ntmps27
  go_wp2_with fail
  change bodyPost _ _ _ _ _ ((w.alloc (.cells #[.int .u8 3, .string t, .int .i64 n, .slice A m cap] 32)).alloc (.cells #[.int .i64 0, .int .i64 0, .int .u8 0, .string ⟨#[]⟩, .int .i64 0, .slice none 0 0, .int .i64 n, .int .i64 0, (.slice none 0 0), (.slice none 0 0)] 39))
  have hA : RClaimAt ((w.alloc (.cells #[.int .u8 3, .string t, .int .i64 n, .slice A m cap] 32)).alloc (.cells #[.int .i64 0, .int .i64 0, .int .u8 0, .string ⟨#[]⟩, .int .i64 0, .slice none 0 0, .int .i64 n, .int .i64 0, (.slice none 0 0), (.slice none 0 0)] 39)) (w.heap.size + 1) n 0 (.slice none 0 0) (.slice none 0 0) := by
    have h := Go.heap_alloc_new (w.alloc (.cells #[.int .u8 3, .string t, .int .i64 n, .slice A m cap] 32)) (.cells #[.int .i64 0, .int .i64 0, .int .u8 0, .string ⟨#[]⟩, .int .i64 0, .slice none 0 0, .int .i64 n, .int .i64 0, (.slice none 0 0), (.slice none 0 0)] 39)
    rw [show (w.alloc (.cells #[.int .u8 3, .string t, .int .i64 n, .slice A m cap] 32)).heap.size = w.heap.size + 1 by simp] at h
    exact h
  have hF : Below w.heap.size w ((w.alloc (.cells #[.int .u8 3, .string t, .int .i64 n, .slice A m cap] 32)).alloc (.cells #[.int .i64 0, .int .i64 0, .int .u8 0, .string ⟨#[]⟩, .int .i64 0, .slice none 0 0, .int .i64 n, .int .i64 0, (.slice none 0 0), (.slice none 0 0)] 39)) := HB.out
  generalize (w.alloc (.cells #[.int .u8 3, .string t, .int .i64 n, .slice A m cap] 32)).alloc (.cells #[.int .i64 0, .int .i64 0, .int .u8 0, .string ⟨#[]⟩, .int .i64 0, .slice none 0 0, .int .i64 n, .int .i64 0, (.slice none 0 0), (.slice none 0 0)] 39) = Wf at hA hF ⊢
  clear z0 z1 z2 z3 z4 z5 z6 z7 z8 z9 zf q0 q1 q2 q3
  obtain ⟨r0, r1, r2, r3, r4, r5, r6, r7, r8, r9, -⟩ := hA.cells
  exact bodyPost_ret (v := .tuple #[claimV n 0 (.slice none 0 0) (.slice none 0 0), .bool true]) (by simp [results, Tryz.results27, go_sem, r0, r1, r2, r3, r4, r5, r6, r7, r8, r9, claimV]) rfl ⟨none, 0, none, 0, rfl, Row.nil _ _ _, Row.nil _ _ _, .inl rfl, hF⟩
set_option maxRecDepth 100000 in
set_option maxHeartbeats 8000000 in
theorem rway_older (t : ByteArray) (n : Int) (m : Nat) (A : Option Addr) (cap : Nat) (SA PA : Option Addr) (sc pc0 : Nat) (ks ps : List ByteArray) (w : World) :
    Calls Tryz.prog 27 #[.agg #[.int .u8 4, .string t, .int .i64 n, .slice A m cap], .slice SA ks.length sc, .slice PA ps.length pc0] w (WayP (some ⟨0, n, [], []⟩) w) := by
  have hb0 : Below w.heap.size w (w.alloc (.cells #[.int .u8 4, .string t, .int .i64 n, .slice A m cap] 32)) := (Below.refl _ _).alloc (Nat.le_refl _) _
  have hz : RClaimAt ((w.alloc (.cells #[.int .u8 4, .string t, .int .i64 n, .slice A m cap] 32)).alloc (.cells #[.int .i64 0, .int .i64 0, .int .u8 0, .string ⟨#[]⟩, .int .i64 0, .slice none 0 0, .int .i64 0, .int .i64 0, (.slice none 0 0), (.slice none 0 0)] 39)) (w.heap.size + 1) 0 0 (.slice none 0 0) (.slice none 0 0) := by
    have h := Go.heap_alloc_new (w.alloc (.cells #[.int .u8 4, .string t, .int .i64 n, .slice A m cap] 32)) (.cells #[.int .i64 0, .int .i64 0, .int .u8 0, .string ⟨#[]⟩, .int .i64 0, .slice none 0 0, .int .i64 0, .int .i64 0, (.slice none 0 0), (.slice none 0 0)] 39)
    rw [show (w.alloc (.cells #[.int .u8 4, .string t, .int .i64 n, .slice A m cap] 32)).heap.size = w.heap.size + 1 by simp] at h
    exact h
  have hbx : BoxAt ((w.alloc (.cells #[.int .u8 4, .string t, .int .i64 n, .slice A m cap] 32)).alloc (.cells #[.int .i64 0, .int .i64 0, .int .u8 0, .string ⟨#[]⟩, .int .i64 0, .slice none 0 0, .int .i64 0, .int .i64 0, (.slice none 0 0), (.slice none 0 0)] 39)) w.heap.size 4 t n A m cap := BoxAt.below (show BoxAt (w.alloc (.cells #[.int .u8 4, .string t, .int .i64 n, .slice A m cap] 32)) w.heap.size 4 t n A m cap from Go.heap_alloc_new w _) ((Below.refl _ _).alloc (Nat.le_refl _) _)
  obtain ⟨q0, q1, q2, q3⟩ := hbx.cells
  obtain ⟨z0, z1, z2, z3, z4, z5, z6, z7, z8, z9, zf⟩ := hz.cells
  have HB := Lib.hid (hb0.alloc (by simp) (.cells #[.int .i64 0, .int .i64 0, .int .u8 0, .string ⟨#[]⟩, .int .i64 0, .slice none 0 0, .int .i64 0, .int .i64 n, (.slice none 0 0), (.slice none 0 0)] 39))
  clear hz hb0 hbx
  go_enter Tryz.func27, Tryz.ntmps27
  go_wp2_with fail
  change bodyPost _ _ _ _ _ ((w.alloc (.cells #[.int .u8 4, .string t, .int .i64 n, .slice A m cap] 32)).alloc (.cells #[.int .i64 0, .int .i64 0, .int .u8 0, .string ⟨#[]⟩, .int .i64 0, .slice none 0 0, .int .i64 0, .int .i64 n, (.slice none 0 0), (.slice none 0 0)] 39))
  have hA : RClaimAt ((w.alloc (.cells #[.int .u8 4, .string t, .int .i64 n, .slice A m cap] 32)).alloc (.cells #[.int .i64 0, .int .i64 0, .int .u8 0, .string ⟨#[]⟩, .int .i64 0, .slice none 0 0, .int .i64 0, .int .i64 n, (.slice none 0 0), (.slice none 0 0)] 39)) (w.heap.size + 1) 0 n (.slice none 0 0) (.slice none 0 0) := by
    have h := Go.heap_alloc_new (w.alloc (.cells #[.int .u8 4, .string t, .int .i64 n, .slice A m cap] 32)) (.cells #[.int .i64 0, .int .i64 0, .int .u8 0, .string ⟨#[]⟩, .int .i64 0, .slice none 0 0, .int .i64 0, .int .i64 n, (.slice none 0 0), (.slice none 0 0)] 39)
    rw [show (w.alloc (.cells #[.int .u8 4, .string t, .int .i64 n, .slice A m cap] 32)).heap.size = w.heap.size + 1 by simp] at h
    exact h
  have hF : Below w.heap.size w ((w.alloc (.cells #[.int .u8 4, .string t, .int .i64 n, .slice A m cap] 32)).alloc (.cells #[.int .i64 0, .int .i64 0, .int .u8 0, .string ⟨#[]⟩, .int .i64 0, .slice none 0 0, .int .i64 0, .int .i64 n, (.slice none 0 0), (.slice none 0 0)] 39)) := HB.out
  generalize (w.alloc (.cells #[.int .u8 4, .string t, .int .i64 n, .slice A m cap] 32)).alloc (.cells #[.int .i64 0, .int .i64 0, .int .u8 0, .string ⟨#[]⟩, .int .i64 0, .slice none 0 0, .int .i64 0, .int .i64 n, (.slice none 0 0), (.slice none 0 0)] 39) = Wf at hA hF ⊢
  clear z0 z1 z2 z3 z4 z5 z6 z7 z8 z9 zf q0 q1 q2 q3
  obtain ⟨r0, r1, r2, r3, r4, r5, r6, r7, r8, r9, -⟩ := hA.cells
  exact bodyPost_ret (v := .tuple #[claimV 0 n (.slice none 0 0) (.slice none 0 0), .bool true]) (by simp [results, Tryz.results27, go_sem, r0, r1, r2, r3, r4, r5, r6, r7, r8, r9, claimV]) rfl ⟨none, 0, none, 0, rfl, Row.nil _ _ _, Row.nil _ _ _, .inl rfl, hF⟩
theorem pubB_one (x t : ByteArray) {r1 : Int} {d : ByteArray} (h : pubE x.data.toList = (r1, d.data.toList)) : sigB t x = (decide (r1 = 0) && (d.toList == t.toList)) := by
  unfold sigB
  rw [pubOf_pub, h, str_test]
  simp only
  by_cases h0 : r1 = 0
  · rw [if_pos h0, decide_eq_true h0, Bool.true_and]; rfl
  · rw [if_neg h0, decide_eq_false h0]; rfl
set_option maxRecDepth 100000 in
set_option maxHeartbeats 8000000 in
theorem rway_sig (t : ByteArray) (n : Int) (m : Nat) (A : Option Addr) (cap : Nat) (SA PA : Option Addr) (sc pc0 : Nat) (ks ps : List ByteArray) (w : World) (hh : Cells w SA (strs ks)) (hl : ks.length ≤ 1000) (hs : ∀ x ∈ ks, x.size ≤ 900000) (hv : VarsOk w) :
    Calls Tryz.prog 27 #[.agg #[.int .u8 1, .string t, .int .i64 n, .slice A m cap], .slice SA ks.length sc, .slice PA ps.length pc0] w (WayP ((ks.find? (sigB t)).map fun x => ⟨0, 0, [x], []⟩) w) := by
  have hb0 : Below w.heap.size w (w.alloc (.cells #[.int .u8 1, .string t, .int .i64 n, .slice A m cap] 32)) := (Below.refl _ _).alloc (Nat.le_refl _) _
  have hz : RClaimAt ((w.alloc (.cells #[.int .u8 1, .string t, .int .i64 n, .slice A m cap] 32)).alloc (.cells #[.int .i64 0, .int .i64 0, .int .u8 0, .string ⟨#[]⟩, .int .i64 0, .slice none 0 0, .int .i64 0, .int .i64 0, (.slice none 0 0), (.slice none 0 0)] 39)) (w.heap.size + 1) 0 0 (.slice none 0 0) (.slice none 0 0) := by
    have h := Go.heap_alloc_new (w.alloc (.cells #[.int .u8 1, .string t, .int .i64 n, .slice A m cap] 32)) (.cells #[.int .i64 0, .int .i64 0, .int .u8 0, .string ⟨#[]⟩, .int .i64 0, .slice none 0 0, .int .i64 0, .int .i64 0, (.slice none 0 0), (.slice none 0 0)] 39)
    rw [show (w.alloc (.cells #[.int .u8 1, .string t, .int .i64 n, .slice A m cap] 32)).heap.size = w.heap.size + 1 by simp] at h
    exact h
  have hbx : BoxAt ((w.alloc (.cells #[.int .u8 1, .string t, .int .i64 n, .slice A m cap] 32)).alloc (.cells #[.int .i64 0, .int .i64 0, .int .u8 0, .string ⟨#[]⟩, .int .i64 0, .slice none 0 0, .int .i64 0, .int .i64 0, (.slice none 0 0), (.slice none 0 0)] 39)) w.heap.size 1 t n A m cap := BoxAt.below (show BoxAt (w.alloc (.cells #[.int .u8 1, .string t, .int .i64 n, .slice A m cap] 32)) w.heap.size 1 t n A m cap from Go.heap_alloc_new w _) ((Below.refl _ _).alloc (Nat.le_refl _) _)
  obtain ⟨q0, q1, q2, q3⟩ := hbx.cells
  have HZ := Lib.hid hz
  have HBX := Lib.hid hbx
  have HB := Lib.hid (hb0.alloc (by simp) (.cells #[.int .i64 0, .int .i64 0, .int .u8 0, .string ⟨#[]⟩, .int .i64 0, .slice none 0 0, .int .i64 0, .int .i64 0, (.slice none 0 0), (.slice none 0 0)] 39))
  have HH := Lib.hid hh
  have HS := Lib.hid hs
  have HV := Lib.hid hv
  clear hz hb0 hbx hh hs hv
  obtain ⟨W0, hW0⟩ : ∃ W0, (w.alloc (.cells #[.int .u8 1, .string t, .int .i64 n, .slice A m cap] 32)).alloc (.cells #[.int .i64 0, .int .i64 0, .int .u8 0, .string ⟨#[]⟩, .int .i64 0, .slice none 0 0, .int .i64 0, .int .i64 0, (.slice none 0 0), (.slice none 0 0)] 39) = W0 := ⟨_, rfl⟩
  obtain ⟨R, hR⟩ : ∃ R, ks.find? (sigB t) = R := ⟨_, rfl⟩
  rw [hR]
  have HR := Lib.hid hR
  have HW0 := Lib.hid hW0
  clear hR hW0
  go_enter Tryz.func27, Tryz.ntmps27
  go_wp2_with fail
  go_loopw [8] (fun i wr => ∃ j : Nat, j ≤ ks.length ∧ i = .int .i64 (j : Int) ∧ (ks.drop j).find? (sigB t) = R ∧ RClaimAt wr (w.heap.size + 1) 0 0 (.slice none 0 0) (.slice none 0 0) ∧ BoxAt wr w.heap.size 1 t n A m cap ∧ Below w.heap.size w wr) (fun i _ => ks.length - (intOf i).toNat)
  case atStart => exact ⟨0, Nat.zero_le _, rfl, by rw [List.drop_zero]; exact HR.out, HZ.out, HBX.out, HB.out⟩
  case round =>
    obtain ⟨j, hj, rfl, hrest, hz, hbx, hb⟩ := hrel
    clear q0 q1 q2 q3
    by_cases hlt : j < ks.length
    · obtain ⟨ad, rfl, c0⟩ := strs_at (Cells.below HH.out hb) hlt
      have hsz := HS.out _ (List.getElem_mem hlt)
      rw [find_step _ _ hlt] at hrest
      obtain ⟨x, hx⟩ : ∃ x, ks[j] = x := ⟨_, rfl⟩
      rw [hx] at c0 hsz hrest
      have hcall := rpub_any x wr (by omega) (HV.out.below hb)
      obtain ⟨r1, d, hRd⟩ : ∃ (r1 : Int) (d : ByteArray), pubE x.data.toList = (r1, d.data.toList) := ⟨(pubE x.data.toList).1, ⟨(pubE x.data.toList).2.toArray⟩, by simp⟩
      have hp := pubB_one x t hRd
      rw [hRd] at hcall
      unfold tupE at hcall
      simp only at hcall
      rw [show (⟨d.data.toList.toArray⟩ : ByteArray) = d from (str_eq d).symm] at hcall
      have HCALL := Lib.hid hcall
      have HHB := Lib.hid (Cells.below HH.out hb)
      have HP := Lib.hid hp
      have HRE := Lib.hid hrest
      have HZ2 := Lib.hid hz
      have HBX2 := Lib.hid hbx
      have HB2 := Lib.hid hb
      clear hcall hRd hp hrest hz hbx hb hx
      go_wp2_with fail
      refine HCALL.out.mono ?_
      rintro e w1 ⟨rfl, hb1⟩
      have hc1 := cell_below hb1 c0
      have HZ3 := Lib.hid (HZ2.out.below hb1)
      have HBX3 := Lib.hid (HBX2.out.below hb1)
      have HB3 := Lib.hid (HB2.out.trans (hb1.mono HB2.out.size))
      obtain ⟨q0, q1, q2, q3⟩ := HBX3.out.cells
      clear hb1
      by_cases h0 : r1 = 0
      · subst h0
        cases hq : (d.toList == t.toList) with
        | true =>
          have HN := Lib.hid (show R = some x by rw [← HRE.out, show sigB t x = true by rw [HP.out, hq]; rfl]; rfl)
          have ht : d.toList = t.toList := eq_of_beq hq
          obtain ⟨z0, z1, z2, z3, z4, z5, z6, z7, z8, z9, zf⟩ := (HZ3.out.below ((Below.refl _ _).alloc (Nat.le_refl _) (.cells #[.string x] 29)) : RClaimAt (w1.alloc (.cells #[.string x] 29)) (w.heap.size + 1) 0 0 (.slice none 0 0) (.slice none 0 0)).cells
          go_wp2_with fail
          change bodyPost _ _ _ _ _ (put10 (w1.alloc (.cells #[.string x] 29)) (w.heap.size + 1) (.int .i64 0) (.int .i64 0) (.int .u8 0) (.string ⟨#[]⟩) (.int .i64 0) (.slice none 0 0) (.int .i64 0) (.int .i64 0) (.slice (some ⟨w1.heap.size, 0, none⟩) 1 1) (.slice none 0 0))
          have hZa : RClaimAt (w1.alloc (.cells #[.string x] 29)) (w.heap.size + 1) 0 0 (.slice none 0 0) (.slice none 0 0) := HZ3.out.below ((Below.refl _ _).alloc (Nat.le_refl _) _)
          have hrow : Row (w1.alloc (.cells #[.string x] 29)) w.heap.size 29 (.slice (some ⟨w1.heap.size, 0, none⟩) 1 1) (strs [x]) := .inr ⟨w1.heap.size, 0, 1, #[.string x], (0, 0), rfl, HB3.out.size, Go.heap_alloc_new w1 _, Free.none _, by simp [strs], by unfold maxLen; omega, by simp, rfl⟩
          have hA := rput10_at hZa 0 0 (.slice (some ⟨w1.heap.size, 0, none⟩) 1 1) (.slice none 0 0)
          have hFF := put10_fr (w1.alloc (.cells #[.string x] 29)) (w.heap.size + 1) (.int .i64 0) (.int .i64 0) (.int .u8 0) (.string ⟨#[]⟩) (.int .i64 0) (.slice none 0 0) (.int .i64 0) (.int .i64 0) (.slice (some ⟨w1.heap.size, 0, none⟩) 1 1) (.slice none 0 0) (F := [w.heap.size + 1]) (List.mem_singleton.2 rfl)
          have hF := (HB3.out.alloc HB3.out.size (.cells #[.string x] 29)).trans (hFF.toBelowOf (B := w.heap.size) (HB3.out.alloc HB3.out.size (.cells #[.string x] 29)).size (fun i hi => by simp at hi; omega))
          have hrow9 := row_fr hrow hFF (fun g hg => by simpa using row_ne_rclaim hrow (by decide) hZa g hg)
          generalize put10 (w1.alloc (.cells #[.string x] 29)) (w.heap.size + 1) (.int .i64 0) (.int .i64 0) (.int .u8 0) (.string ⟨#[]⟩) (.int .i64 0) (.slice none 0 0) (.int .i64 0) (.int .i64 0) (.slice (some ⟨w1.heap.size, 0, none⟩) 1 1) (.slice none 0 0) = Wf at hA hF hrow9 ⊢
          clear z0 z1 z2 z3 z4 z5 z6 z7 z8 z9 zf q0 q1 q2 q3
          obtain ⟨r0, r1, r2, r3, r4, r5, r6, r7, r8, r9, -⟩ := hA.cells
          rw [HN.out]
          exact bodyPost_ret (v := .tuple #[claimV 0 0 (.slice (some ⟨w1.heap.size, 0, none⟩) 1 1) (.slice none 0 0), .bool true]) (by simp [results, Tryz.results27, go_sem, r0, r1, r2, r3, r4, r5, r6, r7, r8, r9, claimV]) rfl ⟨some ⟨w1.heap.size, 0, none⟩, 1, none, 0, rfl, hrow9, Row.nil _ _ _, .inr (by simp [Value.ownBlock]), hF⟩
        | false =>
          have HN := Lib.hid (show (ks.drop (j + 1)).find? (sigB t) = R by rw [← HRE.out, show sigB t x = false by rw [HP.out, hq]; rfl]; rfl)
          go_wp2_with fail
          go_roundw
          case rel => exact ⟨j + 1, by omega, by go_num, HN.out, HZ3.out, HBX3.out, HB3.out⟩
          case measure => simp [intOf]; omega
      · have g0 : (r1 == 0) = false := beq_false_of_ne h0
        have HN := Lib.hid (show (ks.drop (j + 1)).find? (sigB t) = R by rw [← HRE.out, show sigB t x = false by rw [HP.out, decide_eq_false h0]; rfl]; rfl)
        clear h0
        go_wp2_with fail
        go_roundw
        case rel => exact ⟨j + 1, by omega, by go_num, HN.out, HZ3.out, HBX3.out, HB3.out⟩
        case measure => simp [intOf]; omega
    · have HN := Lib.hid (show R = none by rw [← hrest, List.drop_of_length_le (by omega)]; rfl)
      obtain ⟨z0, z1, z2, z3, z4, z5, z6, z7, z8, z9, zf⟩ := hz.cells
      have HZ2 := Lib.hid hz
      have HB2 := Lib.hid hb
      clear hrest hz hbx hb
      go_wp2_with fail
      change bodyPost _ _ _ _ _ (put10 wr (w.heap.size + 1) (.int .i64 0) (.int .i64 0) (.int .u8 0) (.string ⟨#[]⟩) (.int .i64 0) (.slice none 0 0) (.int .i64 0) (.int .i64 0) (.slice none 0 0) (.slice none 0 0))
      have hA := rput10_at HZ2.out 0 0 (.slice none 0 0) (.slice none 0 0)
      have hF := HB2.out.trans ((put10_fr wr (w.heap.size + 1) (.int .i64 0) (.int .i64 0) (.int .u8 0) (.string ⟨#[]⟩) (.int .i64 0) (.slice none 0 0) (.int .i64 0) (.int .i64 0) (.slice none 0 0) (.slice none 0 0) (F := [w.heap.size + 1]) (List.mem_singleton.2 rfl)).toBelowOf (B := w.heap.size) HB2.out.size (fun i hi => by simp at hi; omega))
      generalize put10 wr (w.heap.size + 1) (.int .i64 0) (.int .i64 0) (.int .u8 0) (.string ⟨#[]⟩) (.int .i64 0) (.slice none 0 0) (.int .i64 0) (.int .i64 0) (.slice none 0 0) (.slice none 0 0) = Wf at hA hF ⊢
      clear z0 z1 z2 z3 z4 z5 z6 z7 z8 z9 zf
      obtain ⟨r0, r1, r2, r3, r4, r5, r6, r7, r8, r9, -⟩ := hA.cells
      exact bodyPost_ret (v := .tuple #[claimV 0 0 (.slice none 0 0) (.slice none 0 0), .bool false]) (by simp [results, Tryz.results27, go_sem, r0, r1, r2, r3, r4, r5, r6, r7, r8, r9, claimV]) rfl (by rw [HN.out]; exact ⟨none, 0, none, 0, rfl, hF⟩)
set_option maxRecDepth 100000 in
set_option maxHeartbeats 8000000 in
theorem rway_pre (t : ByteArray) (n : Int) (m : Nat) (A : Option Addr) (cap : Nat) (SA PA : Option Addr) (sc pc0 : Nat) (ks ps : List ByteArray) (w : World) (hh : Cells w PA (strs ps)) (hl : ps.length ≤ 1000) (hs : ∀ x ∈ ps, x.size ≤ 900000) :
    Calls Tryz.prog 27 #[.agg #[.int .u8 2, .string t, .int .i64 n, .slice A m cap], .slice SA ks.length sc, .slice PA ps.length pc0] w (WayP ((ps.find? (preB t)).map fun x => ⟨0, 0, [], [x]⟩) w) := by
  have hb0 : Below w.heap.size w (w.alloc (.cells #[.int .u8 2, .string t, .int .i64 n, .slice A m cap] 32)) := (Below.refl _ _).alloc (Nat.le_refl _) _
  have hz : RClaimAt ((w.alloc (.cells #[.int .u8 2, .string t, .int .i64 n, .slice A m cap] 32)).alloc (.cells #[.int .i64 0, .int .i64 0, .int .u8 0, .string ⟨#[]⟩, .int .i64 0, .slice none 0 0, .int .i64 0, .int .i64 0, (.slice none 0 0), (.slice none 0 0)] 39)) (w.heap.size + 1) 0 0 (.slice none 0 0) (.slice none 0 0) := by
    have h := Go.heap_alloc_new (w.alloc (.cells #[.int .u8 2, .string t, .int .i64 n, .slice A m cap] 32)) (.cells #[.int .i64 0, .int .i64 0, .int .u8 0, .string ⟨#[]⟩, .int .i64 0, .slice none 0 0, .int .i64 0, .int .i64 0, (.slice none 0 0), (.slice none 0 0)] 39)
    rw [show (w.alloc (.cells #[.int .u8 2, .string t, .int .i64 n, .slice A m cap] 32)).heap.size = w.heap.size + 1 by simp] at h
    exact h
  have hbx : BoxAt ((w.alloc (.cells #[.int .u8 2, .string t, .int .i64 n, .slice A m cap] 32)).alloc (.cells #[.int .i64 0, .int .i64 0, .int .u8 0, .string ⟨#[]⟩, .int .i64 0, .slice none 0 0, .int .i64 0, .int .i64 0, (.slice none 0 0), (.slice none 0 0)] 39)) w.heap.size 2 t n A m cap := BoxAt.below (show BoxAt (w.alloc (.cells #[.int .u8 2, .string t, .int .i64 n, .slice A m cap] 32)) w.heap.size 2 t n A m cap from Go.heap_alloc_new w _) ((Below.refl _ _).alloc (Nat.le_refl _) _)
  obtain ⟨q0, q1, q2, q3⟩ := hbx.cells
  have HZ := Lib.hid hz
  have HBX := Lib.hid hbx
  have HB := Lib.hid (hb0.alloc (by simp) (.cells #[.int .i64 0, .int .i64 0, .int .u8 0, .string ⟨#[]⟩, .int .i64 0, .slice none 0 0, .int .i64 0, .int .i64 0, (.slice none 0 0), (.slice none 0 0)] 39))
  have HH := Lib.hid hh
  have HS := Lib.hid hs

  clear hz hb0 hbx hh hs
  obtain ⟨W0, hW0⟩ : ∃ W0, (w.alloc (.cells #[.int .u8 2, .string t, .int .i64 n, .slice A m cap] 32)).alloc (.cells #[.int .i64 0, .int .i64 0, .int .u8 0, .string ⟨#[]⟩, .int .i64 0, .slice none 0 0, .int .i64 0, .int .i64 0, (.slice none 0 0), (.slice none 0 0)] 39) = W0 := ⟨_, rfl⟩
  obtain ⟨R, hR⟩ : ∃ R, ps.find? (preB t) = R := ⟨_, rfl⟩
  rw [hR]
  have HR := Lib.hid hR
  have HW0 := Lib.hid hW0
  clear hR hW0
  go_enter Tryz.func27, Tryz.ntmps27
  go_wp2_with fail
  go_loopw [11] (fun i wr => ∃ j : Nat, j ≤ ps.length ∧ i = .int .i64 (j : Int) ∧ (ps.drop j).find? (preB t) = R ∧ RClaimAt wr (w.heap.size + 1) 0 0 (.slice none 0 0) (.slice none 0 0) ∧ BoxAt wr w.heap.size 2 t n A m cap ∧ Below w.heap.size w wr) (fun i _ => ps.length - (intOf i).toNat)
  case atStart => exact ⟨0, Nat.zero_le _, rfl, by rw [List.drop_zero]; exact HR.out, HZ.out, HBX.out, HB.out⟩
  case round =>
    obtain ⟨j, hj, rfl, hrest, hz, hbx, hb⟩ := hrel
    clear q0 q1 q2 q3
    by_cases hlt : j < ps.length
    · obtain ⟨ad, rfl, c0⟩ := strs_at (Cells.below HH.out hb) hlt
      have hsz := HS.out _ (List.getElem_mem hlt)
      rw [find_step _ _ hlt] at hrest
      obtain ⟨x, hx⟩ : ∃ x, ps[j] = x := ⟨_, rfl⟩
      rw [hx] at c0 hsz hrest
      have hcall := rone_any 72 72 rfl x wr (by omega)
      obtain ⟨r1, d, hRd⟩ : ∃ (r1 : Int) (d : ByteArray), oneE 72 x.data.toList = (r1, d.data.toList) := ⟨(oneE 72 x.data.toList).1, ⟨(oneE 72 x.data.toList).2.toArray⟩, by simp⟩
      have hp := preB_one x t hRd
      rw [hRd] at hcall
      unfold tupE at hcall
      simp only at hcall
      rw [show (⟨d.data.toList.toArray⟩ : ByteArray) = d from (str_eq d).symm] at hcall
      have HCALL := Lib.hid hcall
      have HHB := Lib.hid (Cells.below HH.out hb)
      have HP := Lib.hid hp
      have HRE := Lib.hid hrest
      have HZ2 := Lib.hid hz
      have HBX2 := Lib.hid hbx
      have HB2 := Lib.hid hb
      clear hcall hRd hp hrest hz hbx hb hx
      go_wp2_with fail
      refine HCALL.out.mono ?_
      rintro e w1 ⟨rfl, hb1⟩
      have hc1 := cell_below hb1 c0
      have HZ3 := Lib.hid (HZ2.out.below hb1)
      have HBX3 := Lib.hid (HBX2.out.below hb1)
      have HB3 := Lib.hid (HB2.out.trans (hb1.mono HB2.out.size))
      obtain ⟨q0, q1, q2, q3⟩ := HBX3.out.cells
      clear hb1
      by_cases h0 : r1 = 0
      · subst h0
        cases hq : (d.toList == t.toList) with
        | true =>
          have HN := Lib.hid (show R = some x by rw [← HRE.out, show preB t x = true by rw [HP.out, hq]; rfl]; rfl)
          have ht : d.toList = t.toList := eq_of_beq hq
          obtain ⟨z0, z1, z2, z3, z4, z5, z6, z7, z8, z9, zf⟩ := (HZ3.out.below ((Below.refl _ _).alloc (Nat.le_refl _) (.cells #[.string x] 29)) : RClaimAt (w1.alloc (.cells #[.string x] 29)) (w.heap.size + 1) 0 0 (.slice none 0 0) (.slice none 0 0)).cells
          go_wp2_with fail
          change bodyPost _ _ _ _ _ (put10 (w1.alloc (.cells #[.string x] 29)) (w.heap.size + 1) (.int .i64 0) (.int .i64 0) (.int .u8 0) (.string ⟨#[]⟩) (.int .i64 0) (.slice none 0 0) (.int .i64 0) (.int .i64 0) (.slice none 0 0) (.slice (some ⟨w1.heap.size, 0, none⟩) 1 1))
          have hZa : RClaimAt (w1.alloc (.cells #[.string x] 29)) (w.heap.size + 1) 0 0 (.slice none 0 0) (.slice none 0 0) := HZ3.out.below ((Below.refl _ _).alloc (Nat.le_refl _) _)
          have hrow : Row (w1.alloc (.cells #[.string x] 29)) w.heap.size 29 (.slice (some ⟨w1.heap.size, 0, none⟩) 1 1) (strs [x]) := .inr ⟨w1.heap.size, 0, 1, #[.string x], (0, 0), rfl, HB3.out.size, Go.heap_alloc_new w1 _, Free.none _, by simp [strs], by unfold maxLen; omega, by simp, rfl⟩
          have hA := rput10_at hZa 0 0 (.slice none 0 0) (.slice (some ⟨w1.heap.size, 0, none⟩) 1 1)
          have hFF := put10_fr (w1.alloc (.cells #[.string x] 29)) (w.heap.size + 1) (.int .i64 0) (.int .i64 0) (.int .u8 0) (.string ⟨#[]⟩) (.int .i64 0) (.slice none 0 0) (.int .i64 0) (.int .i64 0) (.slice none 0 0) (.slice (some ⟨w1.heap.size, 0, none⟩) 1 1) (F := [w.heap.size + 1]) (List.mem_singleton.2 rfl)
          have hF := (HB3.out.alloc HB3.out.size (.cells #[.string x] 29)).trans (hFF.toBelowOf (B := w.heap.size) (HB3.out.alloc HB3.out.size (.cells #[.string x] 29)).size (fun i hi => by simp at hi; omega))
          have hrow9 := row_fr hrow hFF (fun g hg => by simpa using row_ne_rclaim hrow (by decide) hZa g hg)
          generalize put10 (w1.alloc (.cells #[.string x] 29)) (w.heap.size + 1) (.int .i64 0) (.int .i64 0) (.int .u8 0) (.string ⟨#[]⟩) (.int .i64 0) (.slice none 0 0) (.int .i64 0) (.int .i64 0) (.slice none 0 0) (.slice (some ⟨w1.heap.size, 0, none⟩) 1 1) = Wf at hA hF hrow9 ⊢
          clear z0 z1 z2 z3 z4 z5 z6 z7 z8 z9 zf q0 q1 q2 q3
          obtain ⟨r0, r1, r2, r3, r4, r5, r6, r7, r8, r9, -⟩ := hA.cells
          rw [HN.out]
          exact bodyPost_ret (v := .tuple #[claimV 0 0 (.slice none 0 0) (.slice (some ⟨w1.heap.size, 0, none⟩) 1 1), .bool true]) (by simp [results, Tryz.results27, go_sem, r0, r1, r2, r3, r4, r5, r6, r7, r8, r9, claimV]) rfl ⟨none, 0, some ⟨w1.heap.size, 0, none⟩, 1, rfl, Row.nil _ _ _, hrow9, .inl rfl, hF⟩
        | false =>
          have HN := Lib.hid (show (ps.drop (j + 1)).find? (preB t) = R by rw [← HRE.out, show preB t x = false by rw [HP.out, hq]; rfl]; rfl)
          go_wp2_with fail
          go_roundw
          case rel => exact ⟨j + 1, by omega, by go_num, HN.out, HZ3.out, HBX3.out, HB3.out⟩
          case measure => simp [intOf]; omega
      · have g0 : (r1 == 0) = false := beq_false_of_ne h0
        have HN := Lib.hid (show (ps.drop (j + 1)).find? (preB t) = R by rw [← HRE.out, show preB t x = false by rw [HP.out, decide_eq_false h0]; rfl]; rfl)
        clear h0
        go_wp2_with fail
        go_roundw
        case rel => exact ⟨j + 1, by omega, by go_num, HN.out, HZ3.out, HBX3.out, HB3.out⟩
        case measure => simp [intOf]; omega
    · have HN := Lib.hid (show R = none by rw [← hrest, List.drop_of_length_le (by omega)]; rfl)
      obtain ⟨z0, z1, z2, z3, z4, z5, z6, z7, z8, z9, zf⟩ := hz.cells
      have HZ2 := Lib.hid hz
      have HB2 := Lib.hid hb
      clear hrest hz hbx hb
      go_wp2_with fail
      change bodyPost _ _ _ _ _ (put10 wr (w.heap.size + 1) (.int .i64 0) (.int .i64 0) (.int .u8 0) (.string ⟨#[]⟩) (.int .i64 0) (.slice none 0 0) (.int .i64 0) (.int .i64 0) (.slice none 0 0) (.slice none 0 0))
      have hA := rput10_at HZ2.out 0 0 (.slice none 0 0) (.slice none 0 0)
      have hF := HB2.out.trans ((put10_fr wr (w.heap.size + 1) (.int .i64 0) (.int .i64 0) (.int .u8 0) (.string ⟨#[]⟩) (.int .i64 0) (.slice none 0 0) (.int .i64 0) (.int .i64 0) (.slice none 0 0) (.slice none 0 0) (F := [w.heap.size + 1]) (List.mem_singleton.2 rfl)).toBelowOf (B := w.heap.size) HB2.out.size (fun i hi => by simp at hi; omega))
      generalize put10 wr (w.heap.size + 1) (.int .i64 0) (.int .i64 0) (.int .u8 0) (.string ⟨#[]⟩) (.int .i64 0) (.slice none 0 0) (.int .i64 0) (.int .i64 0) (.slice none 0 0) (.slice none 0 0) = Wf at hA hF ⊢
      clear z0 z1 z2 z3 z4 z5 z6 z7 z8 z9 zf
      obtain ⟨r0, r1, r2, r3, r4, r5, r6, r7, r8, r9, -⟩ := hA.cells
      exact bodyPost_ret (v := .tuple #[claimV 0 0 (.slice none 0 0) (.slice none 0 0), .bool false]) (by simp [results, Tryz.results27, go_sem, r0, r1, r2, r3, r4, r5, r6, r7, r8, r9, claimV]) rfl (by rw [HN.out]; exact ⟨none, 0, none, 0, rfl, hF⟩)
end Go.Proofs.YtaonadgelkdbcaaGreatDoor
