/- law.small and law.row: what the two helpers of the statements compute. -/
import Derived.Test.YtnkhbhkmllnniaaDoorConv
import Derived.Test.YtnkhbhkmllnniaaDoorSpec
import Derived.Test.YtnkhbhkmllnniaaDoorChecked
namespace Go.Proofs.YtnkhbhkmllnniaaDoor
open Go.RowKit Bech

theorem setCell_cells {w : World} {g : Nat} {cs : Array Value} {t : TypeId} {fr : Nat × Nat} (h : w.heap[g]? = some (.cells cs t fr)) (i : Nat) (u : Value) : (w.setCell ⟨g, i, none⟩ u).heap[g]? = some (.cells (cs.setIfInBounds i u) t fr) := by
  simp [World.setCell, Array.getElem?_modify, h]
/-- A store into a slice of the call's own. -/
theorem row_put {w : World} {base : Nat} {E : TypeId} {A : Option Addr} {n c : Nat} {xs : List Value} (h : Row w base E (.slice A n c) xs) (hn : xs.length = n) {k : Nat} (hk : k < n) (u : Value) :
    ∃ ad, A = some ad ∧ n ≤ 9223372036854775807 ∧ base ≤ (ad.add k).block ∧ w.cell? (ad.add k) = some (xs[k]'(by omega)) ∧ w.frozen? (ad.add k) = false ∧ Row (w.setCell (ad.add k) u) base E (.slice A n c) (xs.set k u) := by
  have h0 := h
  rcases h with ⟨hv, rfl⟩ | ⟨g, off, cap, cur, fr, hv, hge, hblk, hfr, hnc, hm, hc, ht⟩
  · simp at hn; omega
  · injection hv with ha hb hd
    subst ha; subst hd
    have e : (⟨g, off, none⟩ : Addr).add k = ⟨g, off + k, none⟩ := Go.WideShapes.add_plain ..
    rw [hn] at ht hnc
    refine ⟨⟨g, off, none⟩, rfl, by unfold maxLen at hm; omega, by rw [e]; exact hge, ?_, ?_, ?_⟩
    · rw [e]
      subst hn
      exact h0.cellAt k _ (List.getElem?_eq_getElem hk)
    · rw [e]
      have hf := hfr (off + k) (by omega)
      simp only [World.frozen?, hblk]
      simpa using hf
    · rw [e]
      have hl : (xs.set k u).length = n := by simp [hn]
      refine .inr ⟨g, off, c, _, fr, by rw [hl], hge, setCell_cells hblk (off + k) u, by simpa using hfr, by rw [hl]; omega, hm, by simp; omega, ?_⟩
      rw [hl, Array.toList_setIfInBounds, List.drop_set, if_neg (by omega), show off + k - off = k by omega, List.take_set, ht]

theorem lower_take (l : List UInt8) (k : Nat) (h : k < l.length) : (bv ((l.take k).map lower ++ l.drop k)).set k (.int .u8 ((lower l[k]).toNat : Int)) = bv ((l.take (k + 1)).map lower ++ l.drop (k + 1)) := by
  have e1 : ((l.take k).map lower).length = k := by simp; omega
  rw [map_take_snoc lower l k h, List.drop_eq_getElem_cons h, bv_append, List.set_append_right _ _ (by rw [bv_length, e1]; exact Nat.le_refl _), bv_length, e1, Nat.sub_self, List.append_assoc, bv_append]
  rfl
theorem lower_at (l : List UInt8) (k : Nat) (h : k < l.length) : ∃ h', (bv ((l.take k).map lower ++ l.drop k))[k]'h' = .int .u8 (l[k].toNat : Int) := by
  have hl : ((l.take k).map lower).length = k := by simp; omega
  refine ⟨by simp [bv]; omega, ?_⟩
  have : (bv ((l.take k).map lower ++ l.drop k))[k]? = some (.int .u8 (l[k].toNat : Int)) := by
    rw [bv_append, List.getElem?_append_right (by rw [bv_length, hl]; exact Nat.le_refl _), bv_length, hl, Nat.sub_self, List.drop_eq_getElem_cons h]
    rfl
  exact (List.getElem?_eq_some_iff.1 this).2

set_option maxHeartbeats 1000000 in
theorem small_any (s : ByteArray) (w : World) (hs : s.size ≤ 1000000) :
    Calls Tryd.prog 16 #[.string s] w fun e w' => e = .returned (.string ⟨(s.data.toList.map lower).toArray⟩) ∧ Below w.heap.size w w' := by
  obtain ⟨c1, w1, hconv, hrow, hb1, hlt1⟩ := conv_bytes (P := Tryd.prog) w 9 22 5 s Tryd.underlying9 Tryd.underlying22 Tryd.underlying5 (by omega)
  generalize hl : s.data.toList = l at *
  have hsz : s.size = l.length := by rw [← hl]; simp
  have HSZ := Lib.hid hsz; clear hsz hl
  generalize hn : s.size = n at *
  clear hn
  have hrow' : Row w1 w.heap.size 5 (.slice (some ⟨w.heap.size, 0, none⟩) n c1) (bv ((l.take 0).map lower ++ l.drop 0)) := by simpa using hrow
  have HROW := Lib.hid hrow'; clear hrow hrow'
  go_enter Tryd.func16, Tryd.ntmps16
  go_wp2_with fail
  go_loopw [4] (fun i wr => ∃ k : Nat, k ≤ n ∧ i = .int .i64 k ∧ Below w.heap.size w wr ∧ Row wr w.heap.size 5 (.slice (some ⟨w.heap.size, 0, none⟩) n c1) (bv ((l.take k).map lower ++ l.drop k))) (fun i _ => n - (intOf i).toNat)
  case atStart => exact ⟨0, Nat.zero_le _, rfl, hb1, HROW.out⟩
  case round =>
    obtain ⟨k, hk, rfl, hbr, hown⟩ := hrel
    have hkl : k ≤ l.length := by rw [← HSZ.out]; exact hk
    by_cases hlt : k < n
    · have hltl : k < l.length := by rw [← HSZ.out]; exact hlt
      have hxl : (bv ((l.take k).map lower ++ l.drop k)).length = n := by simp [bv]; rw [HSZ.out]; omega
      obtain ⟨ad, he, hxb, hge, hc, hf, hown2⟩ := row_put hown hxl hlt (.int .u8 ((lower l[k]).toNat : Int))
      obtain rfl : ⟨w.heap.size, 0, none⟩ = ad := Option.some.inj he
      have ea : (⟨w.heap.size, 0, none⟩ : Addr).add k = ⟨w.heap.size, k, none⟩ := by rw [Go.WideShapes.add_plain, Nat.zero_add]
      rw [ea] at hge hc hf hown2
      clear ea
      obtain ⟨h', hat⟩ := lower_at l k hltl
      rw [hat] at hc
      rw [lower_take l k hltl] at hown2
      by_cases hu : isUp l[k] = true
      · have hup := lower_up hu
        unfold isUp at hu
        simp only [Bool.and_eq_true, decide_eq_true_eq] at hu
        rw [hup] at hown2
        have HO2 := Lib.hid hown2
        have HB2 := Lib.hid (hbr.setCell hge (.int .u8 ((l[k].toNat + 32 : Nat) : Int)))
        clear hown hown2 hxl hat hup he
        generalize l[k].toNat = x at *
        obtain ⟨hu1, hu2⟩ := hu
        have hltI : (k : Int) < (n : Int) := by omega
        have HK := Lib.hid hlt
        clear hltl hkl hk hlt hge h' hconv HROW HSZ
        go_wp2_with fail
        go_roundw
        case rel => exact ⟨k + 1, HK.out, by go_num, HB2.out, HO2.out⟩
        case measure => have := HK.out; simp [intOf]; omega
      · have hnu : isUp l[k] = false := by simpa using hu
        have hlo := lower_not hnu
        have hsame : bv ((l.take (k + 1)).map lower ++ l.drop (k + 1)) = bv ((l.take k).map lower ++ l.drop k) := by
          rw [map_take_snoc lower l k hltl, List.drop_eq_getElem_cons hltl, hlo, List.append_assoc]
          rfl
        have HO2 := Lib.hid hown
        have HB2 := Lib.hid hbr
        have HS := Lib.hid hsame
        unfold isUp at hnu
        have hx : ¬ (65 ≤ l[k].toNat ∧ l[k].toNat ≤ 90) := by simpa using hnu
        clear hown hown2 hxl hat hlo he hsame hbr hu hnu
        generalize l[k].toNat = x at *
        have hltI : (k : Int) < (n : Int) := by omega
        have HK := Lib.hid hlt
        clear hltl hkl hk hlt hge h' hconv HROW HSZ
        by_cases h65 : 65 ≤ x
        · have h90 : ¬ x ≤ 90 := by omega
          clear hx
          go_wp2_with fail
          go_roundw
          case rel => exact ⟨k + 1, HK.out, by go_num, HB2.out, by rw [HS.out]; exact HO2.out⟩
          case measure => have := HK.out; simp [intOf]; omega
        · clear hx
          go_wp2_with fail
          go_roundw
          case rel => exact ⟨k + 1, HK.out, by go_num, HB2.out, by rw [HS.out]; exact HO2.out⟩
          case measure => have := HK.out; simp [intOf]; omega
    · have hkn : k = n := by omega
      have hfin : (l.take k).map lower ++ l.drop k = l.map lower := by
        rw [List.take_of_length_le (by rw [← HSZ.out]; omega), List.drop_of_length_le (by rw [← HSZ.out]; omega), List.append_nil]
      rw [hfin] at hown
      obtain ⟨A', c', hv, -, hcell⟩ := hown.shape
      injection hv with hv1 hv2 hv3
      subst hv1
      have hcv := conv_str (P := Tryd.prog) hcell c1 22 9 5 Tryd.underlying22 Tryd.underlying5 Tryd.underlying9
      rw [show (l.map lower).length = n by rw [List.length_map]; exact HSZ.out.symm] at hcv
      have HB := Lib.hid hbr
      clear hown hfin hcell hconv hkl hbr hv2 hv3 HROW HSZ
      go_wp2_with fail
      go_ret
      exact ⟨rfl, HB.out⟩

theorem rep_set (n k : Nat) (x y : Value) (h : k < n) : ((List.replicate k x) ++ List.replicate (n - k) y).set k x = List.replicate (k + 1) x ++ List.replicate (n - (k + 1)) y := by
  rw [List.set_append_right _ _ (by simp), List.length_replicate, Nat.sub_self]
  obtain ⟨m, rfl⟩ : ∃ m, n = k + (m + 1) := ⟨n - k - 1, by omega⟩
  rw [show k + (m + 1) - k = m + 1 by omega, show k + (m + 1) - (k + 1) = m by omega, List.replicate_succ, List.set_cons_zero, List.replicate_succ', List.append_assoc]
  rfl
theorem info5 : (Tryd.prog.info? 5).map (fun i => (i.zero, i.size, i.bytes)) = some (some (.int .u8 0), 1, 1) := by kernel_rfl
theorem bv_rep (n : Nat) (b : UInt8) : bv (List.replicate n b) = List.replicate n (.int .u8 (b.toNat : Int)) := by simp [bv]

set_option maxHeartbeats 1000000 in
theorem row_any (n : Nat) (b : UInt8) (w : World) (hn : n ≤ 100000) :
    Calls Tryd.prog 17 #[.int .i64 n, .int .u8 (b.toNat : Int)] w fun e w' => e = .returned (.string ⟨(List.replicate n b).toArray⟩) ∧ Below w.heap.size w w' := by
  obtain ⟨i0, hi, hz0, hz1, hz2⟩ := info_parts info5
  obtain ⟨w1, hmk, hown, hg⟩ := run_makeSlice_full (P := Tryd.prog) w w.heap.size 22 5 i0 (.int .u8 0) 1 Tryd.underlying22 hi hz0 hz1 .i64 .i64 n (by omega) (by rw [hz2]; omega) (by unfold maxLen; omega) (Nat.le_refl _)
  have hrow : Row w1 w.heap.size 5 (.slice (some ⟨w.heap.size, 0, none⟩) n n) (List.replicate 0 (.int .u8 (b.toNat : Int)) ++ List.replicate (n - 0) (.int .u8 0)) := by
    have hl : (madeCells (Value.int .u8 0).cells (n * 1)).toList = List.replicate n (.int .u8 0) := by
      rw [Nat.mul_one]; exact toList_madeCells_one _ _
    rw [hl] at hown
    have h2 : Own1 w1 w.heap.size 5 (.slice (some ⟨w.heap.size, 0, none⟩) n n) (List.replicate n (.int .u8 0)) := by
      unfold Own1; rw [List.length_replicate]; exact hown
    simpa using Row.of_own h2
  have hb1 : Below w.heap.size w w1 := (Below.refl _ _).grown hg (Nat.le_refl _) (by intro k hk; cases hk)
  have HROW := Lib.hid hrow
  clear hi hz0 hz1 hz2 hown hg hrow
  have hu8 := b.toNat_lt
  go_enter Tryd.func17, Tryd.ntmps17
  go_wp2_with fail
  go_loopw [6] (fun i wr => ∃ k : Nat, k ≤ n ∧ i = .int .i64 k ∧ Below w.heap.size w wr ∧ Row wr w.heap.size 5 (.slice (some ⟨w.heap.size, 0, none⟩) n n) (List.replicate k (.int .u8 (b.toNat : Int)) ++ List.replicate (n - k) (.int .u8 0))) (fun i _ => n - (intOf i).toNat)
  case atStart => exact ⟨0, Nat.zero_le _, rfl, hb1, HROW.out⟩
  case round =>
    obtain ⟨k, hk, rfl, hbr, hown⟩ := hrel
    by_cases hlt : k < n
    · obtain ⟨ad, he, hxb, hge, hc, hf, hown2⟩ := row_put hown (by simp; omega) hlt (.int .u8 (b.toNat : Int))
      obtain rfl : ⟨w.heap.size, 0, none⟩ = ad := Option.some.inj he
      have ea : (⟨w.heap.size, 0, none⟩ : Addr).add k = ⟨w.heap.size, k, none⟩ := by rw [Go.WideShapes.add_plain, Nat.zero_add]
      rw [ea] at hge hc hf hown2
      rw [rep_set n k _ _ hlt] at hown2
      have HO2 := Lib.hid hown2
      have HB2 := Lib.hid (hbr.setCell hge (.int .u8 (b.toNat : Int)))
      generalize ((List.replicate k (Value.int .u8 (b.toNat : Int)) ++ List.replicate (n - k) (.int .u8 0))[k]'(by simp; omega)) = v0 at hc
      clear hown hown2 he HROW hmk
      go_wp2_with fail
      go_roundw
      case rel => exact ⟨k + 1, by omega, by go_num, HB2.out, HO2.out⟩
      case measure => simp [intOf]; omega
    · obtain rfl : k = n := by omega
      rw [Nat.sub_self, List.replicate_zero, List.append_nil, ← bv_rep] at hown
      obtain ⟨A', c', hv, -, hcell⟩ := hown.shape
      injection hv with hv1 hv2 hv3
      subst hv1
      have hcv := conv_str (P := Tryd.prog) hcell k 22 9 5 Tryd.underlying22 Tryd.underlying5 Tryd.underlying9
      rw [List.length_replicate] at hcv
      have HB := Lib.hid hbr
      clear hown hcell hbr hv2 hv3 HROW hmk
      go_wp2_with fail
      go_ret
      exact ⟨rfl, HB.out⟩
end Go.Proofs.YtnkhbhkmllnniaaDoor
