/- The document's Open, key, Pub. · The document's Open: names, texts, parts. · The document's Open: parts. · The document's key and Pub. -/
import Derived.Test.YtaonadgelkdbcaaGreatDoorQ13
import Derived.Test.YtaonadgelkdbcaaGreatDoorQ14
import Derived.Deep.RegionHeld3
import Derived.Test.YtaonadgelkdbcaaGreatDoorQ17
import Derived.Deep.CutBlock
import Derived.Deep.DeepCutAuto
import Derived.Deep.RegionWith
namespace Go.Proofs.YtaonadgelkdbcaaGreatDoor
open Go.RowKit

theorem right_rd {s : List UInt8} {x : Cut} (h : right s = some x) : rd s 64 0 = some x := (right_some h).2.1
theorem right_name {s : List UInt8} {x : Cut} (h : right s = some x) (hb : byte s 0 = 110 ∨ byte s 0 = 116) : x.kids = [] ∧ (byte s 0 = 116 → x.num = 0 ∧ x.text ≤ x.fin ∧ x.fin ≤ s.length) := by
  have hpos := right_pos h
  have hr := right_rd h
  have hran := rd_range 64 0 hr
  have hb0 : s[0]? = some (byte s 0) := by
    unfold byte
    rw [List.getD_eq_getElem?_getD, List.getElem?_eq_getElem hpos]
    rfl
  unfold rd at hr
  rw [hb0] at hr
  simp only at hr
  rcases hb with hb | hb
  · rw [if_pos hb] at hr
    refine ⟨?_, fun e => absurd (hb.symm.trans e) (by decide)⟩
    split at hr
    · cases hr
    · injection hr with hr; rw [← hr]
  · rw [if_neg (by rw [hb]; decide), if_pos hb] at hr
    split at hr
    · cases hr
    · split at hr
      · rename_i h2
        injection hr with hr
        rw [← hr]
        exact ⟨rfl, fun _ => ⟨rfl, by simp only; omega, h2.2⟩⟩
      · cases hr
theorem take_snoc2 {l : List Nat} {k : Nat} (h1 : 1 ≤ k) (hk : k < l.length) : l.take (k + 1) = l.take (k - 1) ++ [l.getD (k - 1) 0] ++ [l.getD k 0] ∧ l.take k = l.take (k - 1) ++ [l.getD (k - 1) 0] := by
  have e1 : l.take k = l.take (k - 1) ++ [l.getD (k - 1) 0] := by
    have := List.take_succ_eq_append_getElem (l := l) (i := k - 1) (by omega)
    rw [show k - 1 + 1 = k by omega] at this
    rw [this, List.getD_eq_getElem?_getD, List.getElem?_eq_getElem (by omega)]
    rfl
  refine ⟨?_, e1⟩
  rw [← e1, List.take_succ_eq_append_getElem hk, List.getD_eq_getElem?_getD, List.getElem?_eq_getElem hk]
  rfl
theorem parts_zero (w : World) : PartsAt (w.alloc (.cells #[.int .u8 0, .int .i64 0, .string ⟨#[]⟩, .slice none 0 0] 88)) w.heap.size 0 0 ⟨#[]⟩ (.slice none 0 0) := Go.heap_alloc_new w _
set_option maxRecDepth 100000 in
set_option maxHeartbeats 8000000 in
theorem ropen_none (s : ByteArray) (w : World) (hs : s.size ≤ 1000000) (hq : right s.data.toList = none) : Calls Tryz.prog 81 #[.string s] w (OpenP s w) := by
  unfold OpenP
  rw [hq]
  have hbA : Below w.heap.size w (w.alloc (.cells #[.int .u8 0, .int .i64 0, .string ⟨#[]⟩, .slice none 0 0] 88)) := (Below.refl _ _).alloc (Nat.le_refl _) _
  have hR := rright_any s (w.alloc (.cells #[.int .u8 0, .int .i64 0, .string ⟨#[]⟩, .slice none 0 0] 88)) hs
  have hB : rightB s.data.toList = false := by unfold rightB; rw [hq]; rfl
  rw [hB] at hR
  have HR := Lib.hid hR
  have HB := Lib.hid hbA
  have HZ := Lib.hid (parts_zero w)
  clear hbA hR hB hq
  go_enter Tryz.func81, Tryz.ntmps81
  go_wp2_with fail
  refine HR.out.mono ?_
  rintro e w1 ⟨rfl, hb1⟩
  have hz2 := HZ.out.fr (Fr.below (F := []) hb1) (by simp)
  have HB2 := Lib.hid (HB.out.trans (hb1.mono HB.out.size))
  obtain ⟨z0, z1, z2, z3, zf⟩ := hz2.cells
  have HZ2 := Lib.hid hz2
  clear hz2 hb1
  go_wp2_with fail
  change bodyPost _ _ _ _ _ (put4 w1 w.heap.size (.int .u8 0) (.int .i64 0) (.string ⟨#[]⟩) (.slice none 0 0))
  have hA := put4_at HZ2.out (.int .u8 0) (.int .i64 0) (.string ⟨#[]⟩) (.slice none 0 0)
  have hF := HB2.out.trans ((put4_fr w1 w.heap.size (.int .u8 0) (.int .i64 0) (.string ⟨#[]⟩) (.slice none 0 0) (F := [w.heap.size]) (List.mem_singleton.2 rfl)).toBelowOf (B := w.heap.size) HB2.out.size (fun i hi => by simp at hi; omega))
  generalize put4 w1 w.heap.size (.int .u8 0) (.int .i64 0) (.string ⟨#[]⟩) (.slice none 0 0) = Wf at hA hF ⊢
  obtain ⟨r0, r1, r2, r3, -⟩ := PartsAt.cells (show PartsAt Wf w.heap.size 0 0 ⟨#[]⟩ (.slice none 0 0) from hA)
  exact bodyPost_ret (v := .tuple #[partsV 0 0 ⟨#[]⟩ (.slice none 0 0), .bool false]) (by simp [results, Tryz.results81, go_sem, r0, r1, r2, r3, partsV]) rfl ⟨none, 0, rfl, hF⟩
/-- What is told at the end: the parts' block is stored into the result's. -/
theorem ropen_end {w W : World} {rb : Nat} {op n : Int} {text : ByteArray} {ks : Value} {op0 n0 : Int} {t0 : ByteArray} {k0 : Value} (hB : Below w.heap.size w W) (hrb : rb = w.heap.size) (hz : PartsAt W rb op0 n0 t0 k0) :
    PartsAt (put4 W rb (.int .u8 op) (.int .i64 n) (.string text) ks) rb op n text ks ∧ Below w.heap.size w (put4 W rb (.int .u8 op) (.int .i64 n) (.string text) ks) ∧ Fr [rb] W (put4 W rb (.int .u8 op) (.int .i64 n) (.string text) ks) := by
  subst hrb
  refine ⟨put4_at hz _ _ _ _, hB.trans ((put4_fr W w.heap.size (.int .u8 op) (.int .i64 n) (.string text) ks (F := [w.heap.size]) (List.mem_singleton.2 rfl)).toBelowOf (B := w.heap.size) hB.size (fun i hi => by simp at hi; omega)), put4_fr _ _ _ _ _ _ (List.mem_singleton.2 rfl)⟩
end Go.Proofs.YtaonadgelkdbcaaGreatDoor

namespace Go.Proofs.YtaonadgelkdbcaaGreatDoor
open Go.RowKit

theorem cut_new (w : World) (e d n f : Int) (ks : Value) : CutAt (w.alloc (.cells #[.int .i64 e, .int .i64 d, .int .u64 n, .int .i64 f, ks] 95)) w.heap.size e d n f ks := Go.heap_alloc_new w _
theorem parts_new (w : World) (op n : Int) (t : ByteArray) (ks : Value) : PartsAt (w.alloc (.cells #[.int .u8 op, .int .i64 n, .string t, ks] 88)) w.heap.size op n t ks := Go.heap_alloc_new w _
/-- What the document's Open tells, from a point on: the result's block, what was cut, what is built. -/
structure OInv (w : World) (s : ByteArray) (x : Cut) (bc bp : Nat) (A : Option Addr) (cap : Nat) (N F : Int) (op n : Int) (t : ByteArray) (ps : List ByteArray) (V : World) : Prop where
  below : Below w.heap.size w V
  res : PartsAt V w.heap.size 0 0 ⟨#[]⟩ (.slice none 0 0)
  cut : CutAt V bc x.fin x.deep N F (.slice A x.kids.length cap)
  ks : Cells V A (ints x.kids)
  par : ∃ B c, PartsAt V bp op n t (.slice B ps.length c) ∧ V.ownsRow (bc + 2) 29 1 (.slice B ps.length c) ps.length (strs ps)
  lo : w.heap.size < bc ∧ bp = bc + 1
  kb : ∀ ad, A = some ad → 0 < x.kids.length → ad.block < bc
theorem OInv.first {w w2 : World} {s : ByteArray} {x : Cut} {A : Option Addr} {cap : Nat} {N F op n : Int} {t : ByteArray} (hb : Below w.heap.size w w2) (hl : w.heap.size < w2.heap.size) (hz : PartsAt w2 w.heap.size 0 0 ⟨#[]⟩ (.slice none 0 0)) (hk : Cells w2 A (ints x.kids)) :
    OInv w s x w2.heap.size (w2.heap.size + 1) A cap N F op n t [] ((w2.alloc (.cells #[.int .i64 (x.fin : Int), .int .i64 (x.deep : Int), .int .u64 N, .int .i64 F, .slice A x.kids.length cap] 95)).alloc (.cells #[.int .u8 op, .int .i64 n, .string t, .slice none 0 0] 88)) := by
  have hb1 : Below w2.heap.size w2 (w2.alloc (.cells #[.int .i64 (x.fin : Int), .int .i64 (x.deep : Int), .int .u64 N, .int .i64 F, .slice A x.kids.length cap] 95)) := (Below.refl _ _).alloc (Nat.le_refl _) _
  have hc := cut_new w2 x.fin x.deep N F (.slice A x.kids.length cap)
  have hsz : (w2.alloc (.cells #[.int .i64 (x.fin : Int), .int .i64 (x.deep : Int), .int .u64 N, .int .i64 F, .slice A x.kids.length cap] 95)).heap.size = w2.heap.size + 1 := by simp
  generalize w2.alloc (.cells #[.int .i64 (x.fin : Int), .int .i64 (x.deep : Int), .int .u64 N, .int .i64 F, .slice A x.kids.length cap] 95) = W1 at hb1 hc hsz ⊢
  have hb2 : Below W1.heap.size W1 (W1.alloc (.cells #[.int .u8 op, .int .i64 n, .string t, .slice none 0 0] 88)) := (Below.refl _ _).alloc (Nat.le_refl _) _
  have hp := parts_new W1 op n t (.slice none 0 0)
  rw [hsz] at hp
  have hb12 := hb1.trans (hb2.mono hb1.size)
  exact ⟨hb.trans (hb12.mono hb.size), (hz.fr (Fr.below (F := []) hb12) (by simp)), hc.fr (Fr.below (F := []) hb2) (by simp), Cells.below hk hb12, ⟨none, 0, hp, World.ownsRow_nil _ _ _ _⟩, ⟨hl, rfl⟩, fun ad he h0 => by
    subst he
    obtain ⟨ad', e, hc0⟩ := ints_at hk h0
    injection e with e
    subst e
    rw [show ad.add 0 = ad by simp [Addr.add]] at hc0
    exact World.block_lt_of_cell? w2 _ hc0⟩
theorem cell1 {V : World} {ad : Addr} {l : List Nat} {j a : Nat} (h : Cells V (some ad) (ints l)) (hj : j < l.length) (ha : l.getD j 0 = a) : V.cell? (ad.add j) = some (.int .i64 (a : Int)) := by
  obtain ⟨ad', e, hc⟩ := ints_at h hj
  injection e with e
  subst e
  rw [ha] at hc
  exact hc
theorem cell2 {V : World} {ad : Addr} {l : List Nat} {j b : Nat} (h : Cells V (some ad) (ints l)) (hj : j + 1 < l.length) (hb : l.getD (j + 1) 0 = b) : V.cell? ⟨ad.block, ad.off + (j + 1), none⟩ = some (.int .i64 (b : Int)) := by
  have := cell1 h hj hb
  unfold Addr.add at this
  rw [if_neg (by omega)] at this
  exact this
theorem cell_heap {V W : World} (e : V.heap = W.heap) {a : Addr} {v : Value} (h : W.cell? a = some v) : V.cell? a = some v := by
  unfold World.cell? at h ⊢
  rw [e]
  exact h
theorem OInv.put {w w6 : World} {s : ByteArray} {x : Cut} {bc bp : Nat} {A A6 : Option Addr} {cap m c6 : Nat} {N F op n : Int} {t : ByteArray} {ps : List ByteArray} {v : Value} (hbl : Below w.heap.size w w6) (hr : PartsAt w6 w.heap.size 0 0 ⟨#[]⟩ (.slice none 0 0)) (hc : CutAt w6 bc x.fin x.deep N F (.slice A x.kids.length cap)) (hk : Cells w6 A (ints x.kids)) (hx : PartsAt w6 bp op n t v)
    (ho : w6.ownsRow (bc + 2) 29 1 (.slice A6 m c6) m (strs ps)) (hm : ps.length = m) (lo : w.heap.size < bc ∧ bp = bc + 1) (kb : ∀ ad, A = some ad → 0 < x.kids.length → ad.block < bc) :
    OInv w s x bc bp A cap N F op n t ps (w6.setCell ⟨bp, 3, none⟩ (.slice A6 m c6)) := by
  have hf : Fr [bp] w6 (w6.setCell ⟨bp, 3, none⟩ (.slice A6 m c6)) := Fr.put0 w6 bp 3 _ (List.mem_singleton.2 rfl)
  subst hm
  refine ⟨hbl.trans (hf.toBelowOf hbl.size (fun i hi => by simp at hi; omega)), hr.fr hf (by simp; omega), hc.fr hf (by simp; omega), ?_, ⟨A6, c6, ?_, own_fr ho hf (fun g hg => by have := (World.ownsRow.lt ho g hg).1; simp; omega)⟩, lo, kb⟩
  · intro hn
    obtain ⟨ad, e, h⟩ := hk hn
    have hb := kb ad e (by unfold ints at hn; rw [List.length_map] at hn; exact hn)
    refine ⟨ad, e, fun j u hj => hf.cellKept ?_ (h j u hj)⟩
    have : (ad.add j).block = ad.block := by unfold Addr.add; split <;> rfl
    simp
    omega
  · unfold PartsAt
    rw [setCell_cells hx 3 (.slice A6 ps.length c6)]
    rfl
theorem piece_run (s : ByteArray) (a b : Nat) (hab : a ≤ b) (hb : b ≤ s.data.toList.length) (W : World) : (Instr.sliceAt 29 (.string s) (some (.int .i64 a)) (some (.int .i64 b)) none).run Tryz.prog W = .ok (.string (s.extract a b)) W := by
  have hb' : b ≤ s.size := hb
  have h1 : (a : Int) ≤ (b : Int) := by omega
  have h2 : (b : Int) ≤ (s.size : Int) := by omega
  simp [Instr.sliceAt, Tryz.underlying29, go_sem, h1, h2]
theorem pieces_start (s : ByteArray) (l : List Nat) : pieces s (l.take 1) = [] := by
  cases l with
  | nil => rfl
  | cons a r => simp [pieces]
set_option maxRecDepth 100000 in
set_option maxHeartbeats 8000000 in
theorem ropen_name (s : ByteArray) (x : Cut) (w : World) (hs : s.size ≤ 1000000) (hq : right s.data.toList = some x) (hb : byte s.data.toList 0 = 110) : Calls Tryz.prog 81 #[.string s] w (OpenP s w) := by
  unfold OpenP
  rw [hq]
  simp only
  have hs0 : 0 < s.size := right_pos hq
  have hbA : Below w.heap.size w (w.alloc (.cells #[.int .u8 0, .int .i64 0, .string ⟨#[]⟩, .slice none 0 0] 88)) := (Below.refl _ _).alloc (Nat.le_refl _) _
  have hR := rright_any s (w.alloc (.cells #[.int .u8 0, .int .i64 0, .string ⟨#[]⟩, .slice none 0 0] 88)) hs
  have hB : rightB s.data.toList = true := by unfold rightB; rw [hq]; rfl
  rw [hB] at hR
  have hrd := fun W => rread_any s hs 64 (by decide) 0 W (Nat.zero_le _)
  unfold RReadP at hrd
  rw [right_rd hq] at hrd
  simp only at hrd
  have hix := fun W => index_term0 hs0 W
  have hran := rd_range 64 0 (right_rd hq)
  have hk := (right_name hq (.inl hb)).1
  rw [hb] at hrd hix ⊢
  have hnum : (x.num : Int) < 9223372036854775808 := by have := hran.num; omega
  have hwr : IntKind.i64.wrap (x.num : Int) = (x.num : Int) := IntWalk.i64_in _ (by omega)
  have HK := Lib.hid hk
  clear hk
  have ht : textOf s 110 x = ⟨#[]⟩ := rfl
  rw [ht]
  unfold cutV at hrd
  have HR := Lib.hid hR
  have HRD := Lib.hid hrd
  have HB := Lib.hid hbA
  have HZ := Lib.hid (parts_zero w)
  have HLT := Lib.hid (show w.heap.size < (w.alloc (.cells #[.int .u8 0, .int .i64 0, .string ⟨#[]⟩, .slice none 0 0] 88)).heap.size by simp)
  clear hbA hR hB hrd hran
  go_enter Tryz.func81, Tryz.ntmps81
  go_wp2_with fail
  refine HR.out.mono ?_
  rintro e w1 ⟨rfl, hb1⟩
  have HZ1 := Lib.hid (HZ.out.fr (Fr.below (F := []) hb1) (by simp))
  have HB1 := Lib.hid (HB.out.trans (hb1.mono HB.out.size))
  have HLT1 := Lib.hid (Nat.lt_of_lt_of_le HLT.out hb1.size)
  clear hb1
  go_wp2_with fail
  refine (HRD.out _).mono ?_
  rintro e w2 ⟨N, F, A, cap, rfl, hN, -, hks, hb2⟩
  obtain rfl := hN (by first | trivial | rfl)
  have HI := Lib.hid (OInv.first (s := s) (x := x) (A := A) (cap := cap) (N := (x.num : Int)) (F := F) (op := 110) (n := x.num) (t := ⟨#[]⟩) (HB1.out.trans (hb2.mono HB1.out.size)) (Nat.lt_of_lt_of_le HLT1.out hb2.size) (HZ1.out.fr (Fr.below (F := []) hb2) (by simp)) hks)
  clear hb2 hks
  go_wp2_with fail
  go_loopw [6] (fun i wr => ∃ k : Nat, 1 ≤ k ∧ (k ≤ x.kids.length ∨ k = 1) ∧ i = .int .i64 (k : Int) ∧ OInv w s x w2.heap.size (w2.heap.size + 1) A cap (x.num : Int) F 110 x.num ⟨#[]⟩ (pieces s (x.kids.take k)) wr) (fun i _ => x.kids.length + 1 - (intOf i).toNat)
  case atStart => exact ⟨1, Nat.le_refl _, .inr rfl, rfl, by rw [pieces_start]; exact HI.out⟩
  case round =>
    obtain ⟨k, hk1, hk2, rfl, hI⟩ := hrel
    obtain ⟨c0, c1, c2, c3, c4, cf⟩ := hI.cut.cells
    by_cases hlt : k < x.kids.length
    · exfalso
      rw [HK.out] at hlt
      exact absurd hlt (by simp)
    · have htk : x.kids.take k = x.kids := List.take_of_length_le (by omega)
      rw [htk] at hI
      obtain ⟨B, c, hpar, hown⟩ := hI.par
      obtain ⟨z0, z1, z2, z3, zf⟩ := hI.res.cells
      obtain ⟨p0, p1, p2, p3, pf⟩ := hpar.cells
      have HP := Lib.hid hpar
      have HO := Lib.hid hown
      have HII := Lib.hid hI
      have gk : decide ((k : Int) < (x.kids.length : Int)) = false := decide_eq_false (by omega)
      obtain ⟨nk, hnk⟩ : ∃ nk, x.kids.length = nk := ⟨_, rfl⟩
      rw [hnk] at c4 gk hlt
      obtain ⟨np, hnp⟩ : ∃ np, (pieces s x.kids).length = np := ⟨_, rfl⟩
      rw [hnp] at p3 HP HO
      clear hpar hown hI HI htk hk1 hk2 hnk
      go_wp2_with fail
      change bodyPost _ _ _ _ _ (put4 wr w.heap.size (.int .u8 110) (.int .i64 x.num) (.string ⟨#[]⟩) (.slice B np c))
      obtain ⟨hA, hF, hFF⟩ := ropen_end (op := 110) (n := x.num) (text := ⟨#[]⟩) (ks := .slice B np c) HII.out.below rfl HII.out.res
      have hro := own_fr HO.out hFF (fun g hg => by simpa using own_ne_parts HO.out (by decide) HII.out.res g hg)
      generalize put4 wr w.heap.size (.int .u8 110) (.int .i64 x.num) (.string ⟨#[]⟩) (.slice B np c) = Wf at hA hF hro ⊢
      clear z0 z1 z2 z3 zf p0 p1 p2 p3 pf c0 c1 c2 c3 c4 cf
      obtain ⟨r0, r1, r2, r3, -⟩ := hA.cells
      exact bodyPost_ret (v := .tuple #[partsV 110 x.num ⟨#[]⟩ (.slice B np c), .bool true]) (by simp [results, Tryz.results81, go_sem, r0, r1, r2, r3, partsV]) rfl ⟨B, c, by rw [hnp]; rfl, cells_of_own hro, hF⟩
set_option maxRecDepth 100000 in
set_option maxHeartbeats 8000000 in
theorem ropen_text (s : ByteArray) (x : Cut) (w : World) (hs : s.size ≤ 1000000) (hq : right s.data.toList = some x) (hb : byte s.data.toList 0 = 116) : Calls Tryz.prog 81 #[.string s] w (OpenP s w) := by
  unfold OpenP
  rw [hq]
  simp only
  have hs0 : 0 < s.size := right_pos hq
  have hbA : Below w.heap.size w (w.alloc (.cells #[.int .u8 0, .int .i64 0, .string ⟨#[]⟩, .slice none 0 0] 88)) := (Below.refl _ _).alloc (Nat.le_refl _) _
  have hR := rright_any s (w.alloc (.cells #[.int .u8 0, .int .i64 0, .string ⟨#[]⟩, .slice none 0 0] 88)) hs
  have hB : rightB s.data.toList = true := by unfold rightB; rw [hq]; rfl
  rw [hB] at hR
  have hrd := fun W => rread_any s hs 64 (by decide) 0 W (Nat.zero_le _)
  unfold RReadP at hrd
  rw [right_rd hq] at hrd
  simp only at hrd
  have hix := fun W => index_term0 hs0 W
  have hran := rd_range 64 0 (right_rd hq)
  obtain ⟨hk, ht3⟩ := right_name hq (.inr hb)
  obtain ⟨hnum, ht1, ht2⟩ := ht3 hb
  have hsl := piece_run s x.text x.fin ht1 ht2
  rw [hb] at hrd hix ⊢
  have HK := Lib.hid hk
  clear hk
  have ht : textOf s 116 x = s.extract x.text x.fin := rfl
  rw [ht, hnum]
  unfold cutV at hrd
  have HR := Lib.hid hR
  have HRD := Lib.hid hrd
  have HB := Lib.hid hbA
  have HZ := Lib.hid (parts_zero w)
  have HLT := Lib.hid (show w.heap.size < (w.alloc (.cells #[.int .u8 0, .int .i64 0, .string ⟨#[]⟩, .slice none 0 0] 88)).heap.size by simp)
  clear hbA hR hB hrd hran
  go_enter Tryz.func81, Tryz.ntmps81
  go_wp2_with fail
  refine HR.out.mono ?_
  rintro e w1 ⟨rfl, hb1⟩
  have HZ1 := Lib.hid (HZ.out.fr (Fr.below (F := []) hb1) (by simp))
  have HB1 := Lib.hid (HB.out.trans (hb1.mono HB.out.size))
  have HLT1 := Lib.hid (Nat.lt_of_lt_of_le HLT.out hb1.size)
  clear hb1
  go_wp2_with fail
  refine (HRD.out _).mono ?_
  rintro e w2 ⟨N, F, A, cap, rfl, -, hF, hks, hb2⟩
  obtain rfl := hF (by first | trivial | rfl)
  have HI := Lib.hid (OInv.first (s := s) (x := x) (A := A) (cap := cap) (N := N) (F := (x.text : Int)) (op := 116) (n := 0) (t := (s.extract x.text x.fin)) (HB1.out.trans (hb2.mono HB1.out.size)) (Nat.lt_of_lt_of_le HLT1.out hb2.size) (HZ1.out.fr (Fr.below (F := []) hb2) (by simp)) hks)
  clear hb2 hks
  go_wp2_with fail
  go_loopw [6] (fun i wr => ∃ k : Nat, 1 ≤ k ∧ (k ≤ x.kids.length ∨ k = 1) ∧ i = .int .i64 (k : Int) ∧ OInv w s x w2.heap.size (w2.heap.size + 1) A cap N (x.text : Int) 116 0 (s.extract x.text x.fin) (pieces s (x.kids.take k)) wr) (fun i _ => x.kids.length + 1 - (intOf i).toNat)
  case atStart => exact ⟨1, Nat.le_refl _, .inr rfl, rfl, by rw [pieces_start]; exact HI.out⟩
  case round =>
    obtain ⟨k, hk1, hk2, rfl, hI⟩ := hrel
    obtain ⟨c0, c1, c2, c3, c4, cf⟩ := hI.cut.cells
    by_cases hlt : k < x.kids.length
    · exfalso
      rw [HK.out] at hlt
      exact absurd hlt (by simp)
    · have htk : x.kids.take k = x.kids := List.take_of_length_le (by omega)
      rw [htk] at hI
      obtain ⟨B, c, hpar, hown⟩ := hI.par
      obtain ⟨z0, z1, z2, z3, zf⟩ := hI.res.cells
      obtain ⟨p0, p1, p2, p3, pf⟩ := hpar.cells
      have HP := Lib.hid hpar
      have HO := Lib.hid hown
      have HII := Lib.hid hI
      have gk : decide ((k : Int) < (x.kids.length : Int)) = false := decide_eq_false (by omega)
      obtain ⟨nk, hnk⟩ : ∃ nk, x.kids.length = nk := ⟨_, rfl⟩
      rw [hnk] at c4 gk hlt
      obtain ⟨np, hnp⟩ : ∃ np, (pieces s x.kids).length = np := ⟨_, rfl⟩
      rw [hnp] at p3 HP HO
      clear hpar hown hI HI htk hk1 hk2 hnk
      go_wp2_with fail
      change bodyPost _ _ _ _ _ (put4 wr w.heap.size (.int .u8 116) (.int .i64 0) (.string (s.extract x.text x.fin)) (.slice B np c))
      obtain ⟨hA, hF, hFF⟩ := ropen_end (op := 116) (n := 0) (text := (s.extract x.text x.fin)) (ks := .slice B np c) HII.out.below rfl HII.out.res
      have hro := own_fr HO.out hFF (fun g hg => by simpa using own_ne_parts HO.out (by decide) HII.out.res g hg)
      generalize put4 wr w.heap.size (.int .u8 116) (.int .i64 0) (.string (s.extract x.text x.fin)) (.slice B np c) = Wf at hA hF hro ⊢
      clear z0 z1 z2 z3 zf p0 p1 p2 p3 pf c0 c1 c2 c3 c4 cf
      obtain ⟨r0, r1, r2, r3, -⟩ := hA.cells
      exact bodyPost_ret (v := .tuple #[partsV 116 0 (s.extract x.text x.fin) (.slice B np c), .bool true]) (by simp [results, Tryz.results81, go_sem, r0, r1, r2, r3, partsV]) rfl ⟨B, c, by rw [hnp]; rfl, cells_of_own hro, hF⟩
end Go.Proofs.YtaonadgelkdbcaaGreatDoor

namespace Go.Proofs.YtaonadgelkdbcaaGreatDoor
open Go.RowKit

set_option maxRecDepth 100000 in
set_option maxHeartbeats 8000000 in
theorem ropen_kids (s : ByteArray) (x : Cut) (w : World) (hs : s.size ≤ 1000000) (hq : right s.data.toList = some x) (hb1 : byte s.data.toList 0 ≠ 110) (hb2 : byte s.data.toList 0 ≠ 116) : Calls Tryz.prog 81 #[.string s] w (OpenP s w) := by
  unfold OpenP
  rw [hq]
  simp only
  have hs0 : 0 < s.size := right_pos hq
  have hbA : Below w.heap.size w (w.alloc (.cells #[.int .u8 0, .int .i64 0, .string ⟨#[]⟩, .slice none 0 0] 88)) := (Below.refl _ _).alloc (Nat.le_refl _) _
  have hR := rright_any s (w.alloc (.cells #[.int .u8 0, .int .i64 0, .string ⟨#[]⟩, .slice none 0 0] 88)) hs
  have hB : rightB s.data.toList = true := by unfold rightB; rw [hq]; rfl
  rw [hB] at hR
  have hrd := fun W => rread_any s hs 64 (by decide) 0 W (Nat.zero_le _)
  unfold RReadP at hrd
  rw [right_rd hq] at hrd
  simp only at hrd
  have hix := fun W => index_term0 hs0 W
  have hran := rd_range 64 0 (right_rd hq)
  obtain ⟨m, nx, hhd, hkl, hnum, -, -, hkk⟩ := right_kids hq hb1 hb2
  have HM := Lib.hid (head_range hhd hs0).2.2
  obtain ⟨op, hop⟩ : ∃ op : Int, ((byte s.data.toList 0).toNat : Int) = op := ⟨_, rfl⟩
  have n110 : (op == 110) = false := bne_nat hop 110 hb1
  have n116 : (op == 116) = false := bne_nat hop 116 hb2
  have ht : textOf s (byte s.data.toList 0) x = ⟨#[]⟩ := by unfold textOf; rw [if_neg hb2]
  rw [ht, hop, hnum]
  simp only [hop] at hix
  have HKK := Lib.hid hkk
  have HKL := Lib.hid hkl
  clear hkk hkl hhd ht hop hb1 hb2
  unfold cutV at hrd
  have HR := Lib.hid hR
  have HRD := Lib.hid hrd
  have HB := Lib.hid hbA
  have HZ := Lib.hid (parts_zero w)
  have HLT := Lib.hid (show w.heap.size < (w.alloc (.cells #[.int .u8 0, .int .i64 0, .string ⟨#[]⟩, .slice none 0 0] 88)).heap.size by simp)
  clear hbA hR hB hrd hran
  go_enter Tryz.func81, Tryz.ntmps81
  go_wp2_with fail
  refine HR.out.mono ?_
  rintro e w1 ⟨rfl, hb1⟩
  have HZ1 := Lib.hid (HZ.out.fr (Fr.below (F := []) hb1) (by simp))
  have HB1 := Lib.hid (HB.out.trans (hb1.mono HB.out.size))
  have HLT1 := Lib.hid (Nat.lt_of_lt_of_le HLT.out hb1.size)
  clear hb1
  go_wp2_with fail
  refine (HRD.out _).mono ?_
  rintro e w2 ⟨N, F, A, cap, rfl, -, -, hks, hb2⟩
  have HI := Lib.hid (OInv.first (s := s) (x := x) (A := A) (cap := cap) (N := N) (F := F) (op := op) (n := 0) (t := ⟨#[]⟩) (HB1.out.trans (hb2.mono HB1.out.size)) (Nat.lt_of_lt_of_le HLT1.out hb2.size) (HZ1.out.fr (Fr.below (F := []) hb2) (by simp)) hks)
  clear hb2 hks
  go_wp2_with fail
  go_loopw [6] (fun i wr => ∃ k : Nat, 1 ≤ k ∧ (k ≤ x.kids.length ∨ k = 1) ∧ i = .int .i64 (k : Int) ∧ OInv w s x w2.heap.size (w2.heap.size + 1) A cap N F op 0 ⟨#[]⟩ (pieces s (x.kids.take k)) wr) (fun i _ => x.kids.length + 1 - (intOf i).toNat)
  case atStart => exact ⟨1, Nat.le_refl _, .inr rfl, rfl, by rw [pieces_start]; exact HI.out⟩
  case round =>
    obtain ⟨k, hk1, hk2, rfl, hI⟩ := hrel
    obtain ⟨c0, c1, c2, c3, c4, cf⟩ := hI.cut.cells
    by_cases hlt : k < x.kids.length
    · obtain ⟨j, rfl⟩ : ∃ j, k = j + 1 := ⟨k - 1, by omega⟩
      obtain ⟨B, c, hpar, hown⟩ := hI.par
      have hkj := HKK.out j (by rw [HKL.out] at hlt; omega)
      have hkl33 : x.kids.length ≤ 33 := by rw [HKL.out]; exact Nat.succ_le_succ HM.out
      obtain ⟨ad, hA0, e1⟩ := ints_at hI.ks (k := j) (by omega)
      obtain ⟨ad', hA1, e2⟩ := ints_at hI.ks (k := j + 1) hlt
      rw [hA0] at hA1
      injection hA1 with hA1
      subst hA1
      have HCT := Lib.hid hI.cut
      have HKS := Lib.hid hI.ks
      have HP := Lib.hid hpar
      have HO := Lib.hid (show wr.drew.ownsRow (w2.heap.size + 2) _ 1 _ _ _ from hown)
      have HSZ := Lib.hid hI.below.size
      have HII := Lib.hid hI
      obtain ⟨a, ha⟩ : ∃ a, x.kids.getD j 0 = a := ⟨_, rfl⟩
      obtain ⟨b, hb⟩ : ∃ b, x.kids.getD (j + 1) 0 = b := ⟨_, rfl⟩
      have hps := pieces_snoc s (x.kids.take j) a b
      have htk := take_snoc2 (l := x.kids) (k := j + 1) (by omega) hlt
      rw [show j + 1 - 1 = j by omega] at htk
      rw [ha, hb] at htk
      rw [← htk.1, ← htk.2] at hps
      rw [ha] at e1 hkj
      rw [hb] at e2 hkj
      have hab : (a : Int) ≤ (b : Int) := by have := hkj.2.1; omega
      have hbs : (b : Int) ≤ (s.size : Int) := by have : b ≤ s.size := hkj.2.2.1; omega
      have ha0 : (0 : Int) ≤ (a : Int) := by omega
      obtain ⟨ps, hpps⟩ : ∃ ps, pieces s (x.kids.take (j + 1)) = ps := ⟨_, rfl⟩
      rw [hpps] at hps HP HO
      have hpl : ps.length = j := by rw [← hpps, pieces_len, List.length_take]; omega
      have HPS := Lib.hid hps
      have HPL := Lib.hid hpl
      have p3 := HP.out.cells.2.2.2.1
      have p3A := fun o => ((HP.out.fr (Fr.below (F := []) ((Below.refl _ _).alloc (Nat.le_refl _) o)) (by simp)) : PartsAt (wr.alloc o) _ _ _ _ _).cells.2.2.2.1
      have c4A := fun o => ((HCT.out.fr (Fr.below (F := []) ((Below.refl _ _).alloc (Nat.le_refl _) o)) (by simp)) : CutAt (wr.alloc o) _ _ _ _ _ _).cells.2.2.2.2.1
      subst hA0
      rw [show ad.add (j + 1) = ⟨ad.block, ad.off + (j + 1), none⟩ by unfold Addr.add; rw [if_neg (by omega)]] at e2
      have e1A := fun o => cell_below ((Below.refl wr.heap.size wr).alloc (Nat.le_refl _) o) e1
      have e2A := fun o => cell_below ((Below.refl wr.heap.size wr).alloc (Nat.le_refl _) o) e2
      have hoA := own_below HO.out ((Below.refl _ _).alloc (Nat.le_refl _) (.cells #[.string (s.extract a b)] 29) : Below wr.drew.heap.size wr.drew (wr.alloc (.cells #[.string (s.extract a b)] 29)).drew)
      have HOA := Lib.hid hoA
      have HSA := Lib.hid (show w2.heap.size + 2 ≤ (wr.alloc (.cells #[.string (s.extract a b)] 29)).drew.heap.size from Nat.le_trans (lt_of_block hpar) (by simp))
      have hbal : Below wr.drew.heap.size wr.drew (wr.alloc (.cells #[.string (s.extract a b)] 29)).drew := (Below.refl _ _).alloc (Nat.le_refl _) _
      have HXA := Lib.hid (PartsAt.fr (show PartsAt wr.drew _ _ _ _ _ from HP.out) (Fr.below (F := []) hbal) (by simp))
      have HCA := Lib.hid (CutAt.fr (show CutAt wr.drew _ _ _ _ _ _ from HCT.out) (Fr.below (F := []) hbal) (by simp))
      have HRA := Lib.hid (PartsAt.fr (show PartsAt wr.drew _ _ _ _ _ from HII.out.res) (Fr.below (F := []) hbal) (by simp))
      have HKA := Lib.hid (Cells.below (show Cells wr.drew _ _ from HKS.out) hbal)
      have HCP := Lib.hid (show some w2.heap.size ≠ (Value.slice B ps.length c).ownBlock from fun e => absurd (World.ownsRow.lt HO.out _ e.symm).1 (by omega))
      have HRP := Lib.hid (show some w.heap.size ≠ (Value.slice B ps.length c).ownBlock from fun e => absurd (World.ownsRow.lt HO.out _ e.symm).1 (by have := HII.out.lo.1; omega))
      have HAP := Lib.hid (show some (w2.heap.size + 1) ≠ (Value.slice B ps.length c).ownBlock from fun e => absurd (World.ownsRow.lt HO.out _ e.symm).1 (by omega))
      have HKP := Lib.hid (show Apart (some ad) (Value.slice B ps.length c).ownBlock from fun ad' e e2 => by
        injection e with e
        subst e
        have := (World.ownsRow.lt HO.out _ e2).1
        have := HII.out.kb ad rfl (by omega)
        omega)
      have HE1 := Lib.hid (fun (V : World) (h : Cells V (some ad) (ints x.kids)) => cell1 h (by omega) ha)
      have HE2 := Lib.hid (fun (V : World) (h : Cells V (some ad) (ints x.kids)) => cell2 h hlt hb)
      have HST0 := fun (V : World) (e : V.heap = (wr.alloc (.cells #[.string (s.extract a b)] 29)).heap) => And.intro (cell_heap e (p3A (.cells #[.string (s.extract a b)] 29))) (And.intro (cell_heap e (c4A (.cells #[.string (s.extract a b)] 29))) (And.intro (cell_heap e (e1A (.cells #[.string (s.extract a b)] 29))) (cell_heap e (e2A (.cells #[.string (s.extract a b)] 29)))))
      have HN1 := Lib.hid (show (ps.length + 1) * 16 ≤ 140737488355328 by omega)
      have HN2 := Lib.hid (show ps.length + 1 ≤ 140737488355328 by omega)
      obtain ⟨nk, hnk⟩ : ∃ nk, x.kids.length = nk := ⟨_, rfl⟩
      have HNK := Lib.hid hnk
      rw [hnk] at c4 hlt hkl33 HCA
      simp only [hnk] at c4A HST0
      have HST := Lib.hid HST0
      clear HST0
      clear hI hpar hown hkj ha hb hps htk hpps hpl hoA hbal hnk c0 c1 c2 c3 cf HI
      have hwj : IntKind.i64.wrap (j : Int) = (j : Int) := IntWalk.i64_in _ (by omega)
      have hj1 : (j : Int) < (nk : Int) := by omega
      have hj0 : (0 : Int) ≤ (j : Int) + 1 := by omega
      have hj2 : (j : Int) + 1 < (nk : Int) := by omega
      go_upto_region 13 with fail
      refine wp_region_noPanic ?_
      refine wp_region_any (by kernel_rfl) (anyG_any (S := (fun V => V.cell? ⟨w2.heap.size + 1, 3, none⟩ = some (.slice B ps.length c) ∧ V.cell? ⟨w2.heap.size, 4, none⟩ = some (.slice (some ad) nk cap) ∧ V.cell? (ad.add j) = some (.int .i64 (a : Int)) ∧ V.cell? ⟨ad.block, ad.off + (j + 1), none⟩ = some (.int .i64 (b : Int)))) (n := 18) _ _ _ _ ?_)
      have hS : (fun V => V.cell? ⟨w2.heap.size + 1, 3, none⟩ = some (.slice B ps.length c) ∧ V.cell? ⟨w2.heap.size, 4, none⟩ = some (.slice (some ad) nk cap) ∧ V.cell? (ad.add j) = some (.int .i64 (a : Int)) ∧ V.cell? ⟨ad.block, ad.off + (j + 1), none⟩ = some (.int .i64 (b : Int))) wr.drew := ⟨p3, c4, e1, e2⟩
      change AnyG _ _ _ _ _ _ 19 (Array.replicate 19 false) _ wr.drew
      refine anyG_take (i := 0) (v := ?_) rfl rfl (by kernel_rfl) (by kernel_rfl) (by kernel_rfl) (by kernel_rfl) (by kernel_rfl) (fun _ _ _ h => h) (Or.inl ⟨by rfl, ?_⟩) hS ?_
      rotate_left
      · (intro w' hSw; (try dsimp only at hSw); go_simp; (try with_reducible rfl))
      try simp only [Act.put, List.setIfInBounds_toArray, List.set_cons_zero, List.set_cons_succ]
      refine anyG_take (i := 1) (v := ?_) rfl rfl (by kernel_rfl) (by kernel_rfl) (by kernel_rfl) (by kernel_rfl) (by kernel_rfl) (fun _ _ _ h => h) (Or.inl ⟨by rfl, ?_⟩) hS ?_
      rotate_left
      · (intro w' hSw; (try dsimp only at hSw); go_simp; (try with_reducible rfl))
      try simp only [Act.put, List.setIfInBounds_toArray, List.set_cons_zero, List.set_cons_succ]
      refine anyG_take (i := 2) (v := ?_) rfl rfl (by kernel_rfl) (by kernel_rfl) (by kernel_rfl) (by kernel_rfl) (by kernel_rfl) (fun _ _ _ h => h) (Or.inl ⟨by rfl, ?_⟩) hS ?_
      rotate_left
      · (intro w' hSw; (try dsimp only at hSw); go_simp; (try with_reducible rfl))
      try simp only [Act.put, List.setIfInBounds_toArray, List.set_cons_zero, List.set_cons_succ]
      refine anyG_take (i := 3) (v := ?_) rfl rfl (by kernel_rfl) (by kernel_rfl) (by kernel_rfl) (by kernel_rfl) (by kernel_rfl) (fun _ _ _ h => h) (Or.inl ⟨by rfl, ?_⟩) hS ?_
      rotate_left
      · (intro w' hSw; (try dsimp only at hSw); go_simp; (try with_reducible rfl))
      try simp only [Act.put, List.setIfInBounds_toArray, List.set_cons_zero, List.set_cons_succ]
      refine anyG_take (i := 4) (v := ?_) rfl rfl (by kernel_rfl) (by kernel_rfl) (by kernel_rfl) (by kernel_rfl) (by kernel_rfl) (fun _ _ _ h => h) (Or.inl ⟨by rfl, ?_⟩) hS ?_
      rotate_left
      · (intro w' hSw; (try dsimp only at hSw); go_simp; (try with_reducible rfl))
      try simp only [Act.put, List.setIfInBounds_toArray, List.set_cons_zero, List.set_cons_succ]
      refine anyG_take (i := 5) (v := ?_) rfl rfl (by kernel_rfl) (by kernel_rfl) (by kernel_rfl) (by kernel_rfl) (by kernel_rfl) (fun _ _ _ h => h) (Or.inl ⟨by rfl, ?_⟩) hS ?_
      rotate_left
      · (intro w' hSw; (try dsimp only at hSw); go_simp; (try with_reducible rfl))
      try simp only [Act.put, List.setIfInBounds_toArray, List.set_cons_zero, List.set_cons_succ]
      refine anyG_take (i := 6) (v := ?_) rfl rfl (by kernel_rfl) (by kernel_rfl) (by kernel_rfl) (by kernel_rfl) (by kernel_rfl) (fun _ _ _ h => h) (Or.inl ⟨by rfl, ?_⟩) hS ?_
      rotate_left
      · (intro w' hSw; (try dsimp only at hSw); go_simp; (try with_reducible rfl))
      try simp only [Act.put, List.setIfInBounds_toArray, List.set_cons_zero, List.set_cons_succ]
      refine anyG_take (i := 7) (v := ?_) rfl rfl (by kernel_rfl) (by kernel_rfl) (by kernel_rfl) (by kernel_rfl) (by kernel_rfl) (fun _ _ _ h => h) (Or.inl ⟨by rfl, ?_⟩) hS ?_
      rotate_left
      · (intro w' hSw; (try dsimp only at hSw); go_simp; (try with_reducible rfl))
      try simp only [Act.put, List.setIfInBounds_toArray, List.set_cons_zero, List.set_cons_succ]
      refine anyG_take (i := 8) (v := ?_) rfl rfl (by kernel_rfl) (by kernel_rfl) (by kernel_rfl) (by kernel_rfl) (by kernel_rfl) (fun _ _ _ h => h) (Or.inl ⟨by rfl, ?_⟩) hS ?_
      rotate_left
      · (intro w' hSw; (try dsimp only at hSw); go_simp; (try with_reducible rfl))
      try simp only [Act.put, List.setIfInBounds_toArray, List.set_cons_zero, List.set_cons_succ]
      refine anyG_take (i := 9) (v := ?_) rfl rfl (by kernel_rfl) (by kernel_rfl) (by kernel_rfl) (by kernel_rfl) (by kernel_rfl) (fun _ _ _ h => h) (Or.inl ⟨by rfl, ?_⟩) hS ?_
      rotate_left
      · (intro w' hSw; (try dsimp only at hSw); go_simp; (try with_reducible rfl))
      try simp only [Act.put, List.setIfInBounds_toArray, List.set_cons_zero, List.set_cons_succ]
      refine anyG_take (i := 10) (v := ?_) rfl rfl (by kernel_rfl) (by kernel_rfl) (by kernel_rfl) (by kernel_rfl) (by kernel_rfl) (fun _ _ _ h => h) (Or.inl ⟨by rfl, ?_⟩) hS ?_
      rotate_left
      · (intro w' hSw; (try dsimp only at hSw); go_simp; (try with_reducible rfl))
      try simp only [Act.put, List.setIfInBounds_toArray, List.set_cons_zero, List.set_cons_succ]
      refine anyG_take (i := 11) (v := ?_) rfl rfl (by kernel_rfl) (by kernel_rfl) (by kernel_rfl) (by kernel_rfl) (by kernel_rfl) (fun _ _ _ h => h) (Or.inl ⟨by rfl, ?_⟩) hS ?_
      rotate_left
      · (intro w' hSw; (try dsimp only at hSw); go_simp; (try with_reducible rfl))
      try simp only [Act.put, List.setIfInBounds_toArray, List.set_cons_zero, List.set_cons_succ]
      refine anyG_take (i := 12) (v := ?_) rfl rfl (by kernel_rfl) (by kernel_rfl) (by kernel_rfl) (by kernel_rfl) (by kernel_rfl) (fun _ _ _ h => h) (Or.inl ⟨by rfl, ?_⟩) hS ?_
      rotate_left
      · (intro w' hSw; (try dsimp only at hSw); go_simp; (try with_reducible rfl))
      try simp only [Act.put, List.setIfInBounds_toArray, List.set_cons_zero, List.set_cons_succ]
      refine anyG_take (i := 13) (v := ?_) rfl rfl (by kernel_rfl) (by kernel_rfl) (by kernel_rfl) (by kernel_rfl) (by kernel_rfl) (fun _ _ _ h => h) (Or.inl ⟨by rfl, ?_⟩) hS ?_
      rotate_left
      · (intro w' hSw; (try dsimp only at hSw); go_simp; (try with_reducible rfl))
      try simp only [Act.put, List.setIfInBounds_toArray, List.set_cons_zero, List.set_cons_succ]
      refine anyG_take (i := 14) (v := ?_) rfl rfl (by kernel_rfl) (by kernel_rfl) (by kernel_rfl) (by kernel_rfl) (by kernel_rfl) (fun _ _ _ h => h) (Or.inl ⟨by rfl, ?_⟩) hS ?_
      rotate_left
      · (intro w' hSw; (try dsimp only at hSw); go_simp; (try with_reducible rfl))
      try simp only [Act.put, List.setIfInBounds_toArray, List.set_cons_zero, List.set_cons_succ]
      clear hS
      refine anyG_all (rs := [15]) (by kernel_rfl) (by simp) (List.forall_mem_singleton.2 ?_)
      refine wpOp_step rfl (fun K' hK => ?_)
      have HK := Lib.hid hK
      clear hK
      rw [if_pos (by rfl)]
      go_simp
      refine HK.out _ _ ⟨fun _ => HST.out _ rfl, ?_⟩
      clear HK
      try simp only [Act.put, List.setIfInBounds_toArray, List.set_cons_zero, List.set_cons_succ]
      refine anyG_all (rs := [16]) (by kernel_rfl) (by simp) (List.forall_mem_singleton.2 ?_)
      refine wpOp_step rfl (fun K' hK => ?_)
      have HK := Lib.hid hK
      clear hK
      refine step_appk slTerm rfl (.tmp 41) (.tmp 55) rfl (w2.heap.size + 2) (.slice B ps.length c) ps.length (strs ps) (by rfl) (by exact HOA.out) (some ⟨wr.heap.size, 0, none⟩) 1 1 [.string (s.extract a b)] (by rfl) (by rfl) (fun _ => ⟨_, rfl, fun j u hj => World.news_of_block (show (wr.alloc (.cells #[.string (s.extract a b)] 29)).drew.heap[wr.heap.size]? = _ from Go.heap_alloc_new wr _) j u hj⟩) (by simp [Value.oneCell']) HN1.out HN2.out HSA.out ?_
      intro v6 w6 hown6 hg6 hb6 hat6
      obtain ⟨A6, c6, rfl, -, -⟩ := own_shape hown6
      have hx6 := grown_keep hg6 HXA.out HAP.out
      have g3 := (show PartsAt w6 (w2.heap.size + 1) _ _ _ _ from hx6).cells.2.2.2.1
      have h3 := (show PartsAt w6 (w2.heap.size + 1) _ _ _ _ from hx6).cells.2.2.2.2 3
      have hc6 := grown_keep hg6 HCA.out HCP.out
      have hr6 := grown_keep hg6 HRA.out HRP.out
      have hk6 : Cells w6 (some ad) (ints x.kids) := cells_grown HKA.out hg6 HKP.out
      have g4 := (show CutAt w6 w2.heap.size _ _ _ _ (.slice (some ad) nk cap) from hc6).cells.2.2.2.2.1
      refine HK.out _ _ ⟨fun _ => ⟨g3, g4, HE1.out w6 hk6, HE2.out w6 hk6⟩, ?_⟩
      clear HK
      try simp only [Act.put, List.setIfInBounds_toArray, List.set_cons_zero, List.set_cons_succ]
      refine anyG_all (rs := [17]) (by kernel_rfl) (by simp) (List.forall_mem_singleton.2 ?_)
      refine wpOp_step rfl (fun K' hK => ?_)
      have HK := Lib.hid hK
      clear hK
      rw [if_pos (by rfl)]
      go_simp
      refine HK.out _ _ ⟨fun _ => ⟨g3, g4, HE1.out w6 hk6, HE2.out w6 hk6⟩, ?_⟩
      clear HK
      try simp only [Act.put, List.setIfInBounds_toArray, List.set_cons_zero, List.set_cons_succ]
      refine anyG_all (rs := [18]) (by kernel_rfl) (by simp) (List.forall_mem_singleton.2 ?_)
      refine wpOp_step rfl (fun K' hK => ?_)
      have HK := Lib.hid hK
      clear hK
      rw [if_pos (by rfl)]
      go_simp
      refine HK.out _ _ ⟨fun h => absurd rfl h, anyG_done (by kernel_rfl) ?_⟩
      clear HK
      refine NoPanic.normal ?_
      go_wp2_with fail
      go_roundw
      case rel =>
        obtain rfl := HNK.out
        refine ⟨j + 1 + 1, by omega, .inl (by omega), by go_num, ?_⟩
        rw [HPS.out]
        have hbl : Below w.heap.size w w6 := HII.out.below.trans ((((Below.refl w.heap.size wr).alloc HSZ.out _).drew).trans (hb6.mono (by have := HII.out.lo.1; omega)))
        exact OInv.put hbl hr6 hc6 hk6 hx6 (by unfold strs at hown6 ⊢; rw [List.map_append]; exact hown6) (by simp) HII.out.lo HII.out.kb
      case measure => (obtain rfl := HNK.out; simp [intOf] <;> omega)
    · have htk : x.kids.take k = x.kids := List.take_of_length_le (by omega)
      rw [htk] at hI
      obtain ⟨B, c, hpar, hown⟩ := hI.par
      obtain ⟨z0, z1, z2, z3, zf⟩ := hI.res.cells
      obtain ⟨p0, p1, p2, p3, pf⟩ := hpar.cells
      have HP := Lib.hid hpar
      have HO := Lib.hid hown
      have HII := Lib.hid hI
      have gk : decide ((k : Int) < (x.kids.length : Int)) = false := decide_eq_false (by omega)
      obtain ⟨nk, hnk⟩ : ∃ nk, x.kids.length = nk := ⟨_, rfl⟩
      rw [hnk] at c4 gk hlt
      obtain ⟨np, hnp⟩ : ∃ np, (pieces s x.kids).length = np := ⟨_, rfl⟩
      rw [hnp] at p3 HP HO
      clear hpar hown hI HI htk hk1 hk2 hnk
      go_wp2_with fail
      change bodyPost _ _ _ _ _ (put4 wr w.heap.size (.int .u8 op) (.int .i64 0) (.string ⟨#[]⟩) (.slice B np c))
      obtain ⟨hA, hF, hFF⟩ := ropen_end (op := op) (n := 0) (text := ⟨#[]⟩) (ks := .slice B np c) HII.out.below rfl HII.out.res
      have hro := own_fr HO.out hFF (fun g hg => by simpa using own_ne_parts HO.out (by decide) HII.out.res g hg)
      generalize put4 wr w.heap.size (.int .u8 op) (.int .i64 0) (.string ⟨#[]⟩) (.slice B np c) = Wf at hA hF hro ⊢
      clear z0 z1 z2 z3 zf p0 p1 p2 p3 pf c0 c1 c2 c3 c4 cf
      obtain ⟨r0, r1, r2, r3, -⟩ := hA.cells
      exact bodyPost_ret (v := .tuple #[partsV op 0 ⟨#[]⟩ (.slice B np c), .bool true]) (by simp [results, Tryz.results81, go_sem, r0, r1, r2, r3, partsV]) rfl ⟨B, c, by rw [hnp]; rfl, cells_of_own hro, hF⟩
end Go.Proofs.YtaonadgelkdbcaaGreatDoor

namespace Go.Proofs.YtaonadgelkdbcaaGreatDoor
open Go.RowKit
attribute [local go_sem ↓] Go.wp_at_zero Go.wp_at_succ

theorem ropen_any (s : ByteArray) (w : World) (hs : s.size ≤ 1000000) : Calls Tryz.prog 81 #[.string s] w (OpenP s w) := by
  cases hq : right s.data.toList with
  | none => exact ropen_none s w hs hq
  | some x =>
    by_cases h1 : byte s.data.toList 0 = 110
    · exact ropen_name s x w hs hq h1
    · by_cases h2 : byte s.data.toList 0 = 116
      · exact ropen_text s x w hs hq h2
      · exact ropen_kids s x w hs hq h1 h2
set_option maxRecDepth 100000 in
set_option maxHeartbeats 8000000 in
theorem rkey_plain (s : ByteArray) (x : Cut) (w : World) (hsz : s.size ≤ 1000000) (hq : right s.data.toList = some x) (h1 : byte s.data.toList 0 ≠ 86) (h2 : byte s.data.toList 0 ≠ 75) :
    Calls Tryz.prog 63 #[.string s] w fun e w' => e = .returned (.string (bs (80 :: s.data.toList))) ∧ Below w.heap.size w w' := by
  have hO := ropen_any s w hsz
  unfold OpenP at hO
  rw [hq] at hO
  simp only at hO
  unfold partsV at hO
  obtain ⟨c, hc⟩ : ∃ c : Int, ((byte s.data.toList 0).toNat : Int) = c := ⟨_, rfl⟩
  have g1 : (c == 86) = false := bne_nat hc 86 h1
  have g2 : (c == 75) = false := bne_nat hc 75 h2
  rw [hc] at hO
  have he : bs [80] ++ s = bs (80 :: s.data.toList) := by
    have := bs_append [80] s.data.toList
    rw [bs_of] at this
    exact this
  have HE := Lib.hid he
  have HO := Lib.hid hO
  clear hO hc h1 h2 hq he
  go_enter Tryz.func63, Tryz.ntmps63
  go_wp2_with fail
  refine HO.out.mono ?_
  rintro e w1 ⟨A, cap, rfl, -, hb1⟩
  have HB1 := Lib.hid (hb1.alloc hb1.size (.cells #[.int .u8 c, .int .i64 (x.num : Int), .string (textOf s (byte s.data.toList 0) x), .slice A (pieces s x.kids).length cap] 88))
  clear hb1
  go_wp2_with fail
  go_ret
  rw [← HE.out]
  exact ⟨rfl, HB1.out⟩
set_option maxRecDepth 100000 in
set_option maxHeartbeats 8000000 in
theorem rkey_join (s : ByteArray) (x : Cut) (k0 k1 : List UInt8) (T0 T1 : ByteArray) (w : World) (hsz : s.size ≤ 1000000) (hq : right s.data.toList = some x) (hb : byte s.data.toList 0 = 86) (hp : pieces s x.kids = [T0, T1]) (hv : VarsOk w) (hk0 : k0.length ≤ 200000) (hk1 : k1.length ≤ 200000)
    (H0 : ∀ W, VarsOk W → Calls Tryz.prog 63 #[.string T0] W fun e w' => e = .returned (.string (bs k0)) ∧ Below W.heap.size W w')
    (H1 : ∀ W, VarsOk W → Calls Tryz.prog 63 #[.string T1] W fun e w' => e = .returned (.string (bs k1)) ∧ Below W.heap.size W w') :
    Calls Tryz.prog 63 #[.string s] w fun e w' => e = .returned (.string (bs (87 :: (k0 ++ k1)))) ∧ Below w.heap.size w w' := by
  have hO := ropen_any s w hsz
  unfold OpenP at hO
  rw [hq, hb] at hO
  simp only at hO
  rw [hp] at hO
  unfold partsV at hO
  have HO := Lib.hid hO
  have HE := Lib.hid (show bs [87] ++ bs k0 ++ bs k1 = bs (87 :: (k0 ++ k1)) by rw [bs_append, bs_append]; rfl)
  have HV := Lib.hid hv
  have HK0 := Lib.hid H0
  have HK1 := Lib.hid H1
  clear hO hb hp hv hq H0 H1
  go_enter Tryz.func63, Tryz.ntmps63
  go_wp2_with fail
  refine HO.out.mono ?_
  rintro e w1 ⟨A, cap, rfl, hc1, hb1⟩
  obtain ⟨W, hW⟩ : ∃ W, w1.alloc (.cells #[.int .u8 86, .int .i64 (x.num : Int), .string (textOf s 86 x), .slice A 2 cap] 88) = W := ⟨_, rfl⟩
  have hI : KeyInv w w1.heap.size A [T0, T1] cap W := by
    have hb2 : Below w1.heap.size w1 W := by rw [← hW]; exact (Below.refl _ _).alloc (Nat.le_refl _) _
    refine ⟨hb1.trans (hb2.mono hb1.size), (HV.out.below hb1).below hb2, ?_, Cells.below hc1 hb2⟩
    rw [← hW]; exact alloc_cells 3 _ rfl
  have q0 : W.cell? ⟨w1.heap.size, 0, none⟩ = some (.int .u8 86) := by rw [← hW]; exact alloc_cells 0 _ rfl
  obtain ⟨ad, rfl, -⟩ := hI.first (by simp)
  obtain ⟨a0, a1, a2⟩ : W.cell? ⟨w1.heap.size, 3, none⟩ = some (.slice (some ad) 2 cap) ∧ W.cell? ad = some (.string T0) ∧ W.cell? ⟨ad.block, ad.off + 1, none⟩ = some (.string T1) := hI.cells (by simp)
  have HI := Lib.hid hI.drew
  have z0 : (bs k0).size ≤ 200000 := by rw [show (bs k0).size = k0.length by simp [bs, ByteArray.size]]; exact hk0
  have z1 : (bs k1).size ≤ 200000 := by rw [show (bs k1).size = k1.length by simp [bs, ByteArray.size]]; exact hk1
  have z3 : ¬ (9223372036854775807 < 1 + (bs k0).size) := by omega
  have z4 : ¬ (9223372036854775807 < 1 + (bs k0).size + (bs k1).size) := by omega
  clear hc1 hb1 hI
  have HW := Lib.hid hW
  clear hW
  go_wp2_with fail
  rw [HW.out]
  go_region_held3 (fun w' => w'.cell? ⟨w1.heap.size, 3, none⟩ = some (.slice (some ad) 2 cap) ∧ w'.cell? ad = some (.string T0) ∧ w'.cell? ⟨ad.block, ad.off + 1, none⟩ = some (.string T1))
    (first | exact ⟨a0, a1, a2⟩ | exact ⟨b0, b1, b2⟩ | exact ⟨d0, d1, d2⟩)
    (first
      | (go_at_call 63; (with_reducible refine (HK0.out _ HI.out.vars).mono ?_); rintro e wa ⟨rfl, hba⟩; have HI1 := Lib.hid (HI.out.next hba); obtain ⟨b0, b1, b2⟩ : wa.cell? ⟨w1.heap.size, 3, none⟩ = some (.slice (some ad) 2 cap) ∧ wa.cell? ad = some (.string T0) ∧ wa.cell? ⟨ad.block, ad.off + 1, none⟩ = some (.string T1) := HI1.out.cells (by simp); clear hba)
      | (go_at_call 63; (with_reducible refine (HK1.out _ HI1.out.vars).mono ?_); rintro e wb ⟨rfl, hbb⟩; have HI2 := Lib.hid (HI1.out.next hbb); obtain ⟨d0, d1, d2⟩ : wb.cell? ⟨w1.heap.size, 3, none⟩ = some (.slice (some ad) 2 cap) ∧ wb.cell? ad = some (.string T0) ∧ wb.cell? ⟨ad.block, ad.off + 1, none⟩ = some (.string T1) := HI2.out.cells (by simp); clear hbb))
  all_goals (go_wp2_with fail)
  all_goals go_ret
  all_goals exact ⟨by rw [← HE.out]; rfl, HI2.out.below⟩
set_option maxRecDepth 100000 in
set_option maxHeartbeats 8000000 in
theorem rkey_bind (s : ByteArray) (x : Cut) (k0 : List UInt8) (T0 T1 : ByteArray) (w : World) (hsz : s.size ≤ 1000000) (hq : right s.data.toList = some x) (hb : byte s.data.toList 0 = 75) (hp : pieces s x.kids = [T0, T1]) (hv : VarsOk w) (hk0 : k0.length ≤ 200000) (hk1 : T1.size ≤ 1000000)
    (H0 : ∀ W, VarsOk W → Calls Tryz.prog 63 #[.string T0] W fun e w' => e = .returned (.string (bs k0)) ∧ Below W.heap.size W w') :
    Calls Tryz.prog 63 #[.string s] w fun e w' => e = .returned (.string (bs (76 :: (k0 ++ T1.data.toList)))) ∧ Below w.heap.size w w' := by
  have hO := ropen_any s w hsz
  unfold OpenP at hO
  rw [hq, hb] at hO
  simp only at hO
  rw [hp] at hO
  unfold partsV at hO
  have HO := Lib.hid hO
  have HE := Lib.hid (bs_bind k0 T1)
  have HV := Lib.hid hv
  have HK0 := Lib.hid H0
  clear hO hb hp hv hq H0
  go_enter Tryz.func63, Tryz.ntmps63
  go_wp2_with fail
  refine HO.out.mono ?_
  rintro e w1 ⟨A, cap, rfl, hc1, hb1⟩
  obtain ⟨W, hW⟩ : ∃ W, w1.alloc (.cells #[.int .u8 75, .int .i64 (x.num : Int), .string (textOf s 75 x), .slice A 2 cap] 88) = W := ⟨_, rfl⟩
  have hI : KeyInv w w1.heap.size A [T0, T1] cap W := by
    have hb2 : Below w1.heap.size w1 W := by rw [← hW]; exact (Below.refl _ _).alloc (Nat.le_refl _) _
    refine ⟨hb1.trans (hb2.mono hb1.size), (HV.out.below hb1).below hb2, ?_, Cells.below hc1 hb2⟩
    rw [← hW]; exact alloc_cells 3 _ rfl
  have q0 : W.cell? ⟨w1.heap.size, 0, none⟩ = some (.int .u8 75) := by rw [← hW]; exact alloc_cells 0 _ rfl
  obtain ⟨ad, rfl, -⟩ := hI.first (by simp)
  obtain ⟨a0, a1, a2⟩ : W.cell? ⟨w1.heap.size, 3, none⟩ = some (.slice (some ad) 2 cap) ∧ W.cell? ad = some (.string T0) ∧ W.cell? ⟨ad.block, ad.off + 1, none⟩ = some (.string T1) := hI.cells (by simp)
  have HI := Lib.hid hI.drew
  have z0 : (bs k0).size ≤ 200000 := by rw [show (bs k0).size = k0.length by simp [bs, ByteArray.size]]; exact hk0
  have z3 : ¬ (9223372036854775807 < 1 + (bs k0).size) := by omega
  have z4 : ¬ (9223372036854775807 < 1 + (bs k0).size + T1.size) := by omega
  clear hc1 hb1 hI
  have HW := Lib.hid hW
  clear hW
  go_wp2_with fail
  rw [HW.out]
  go_region_held3 (fun w' => w'.cell? ⟨w1.heap.size, 3, none⟩ = some (.slice (some ad) 2 cap) ∧ w'.cell? ad = some (.string T0) ∧ w'.cell? ⟨ad.block, ad.off + 1, none⟩ = some (.string T1))
    (first | exact ⟨a0, a1, a2⟩ | exact ⟨b0, b1, b2⟩)
    (first
      | (go_at_call 63; (with_reducible refine (HK0.out _ HI.out.vars).mono ?_); rintro e wa ⟨rfl, hba⟩; have HI1 := Lib.hid (HI.out.next hba); obtain ⟨b0, b1, b2⟩ : wa.cell? ⟨w1.heap.size, 3, none⟩ = some (.slice (some ad) 2 cap) ∧ wa.cell? ad = some (.string T0) ∧ wa.cell? ⟨ad.block, ad.off + 1, none⟩ = some (.string T1) := HI1.out.cells (by simp); clear hba))
  all_goals (go_wp2_with fail)
  all_goals go_ret
  all_goals exact ⟨by rw [← HE.out]; rfl, HI1.out.below⟩
/-- The public key of a right term. -/
theorem rkey_any : ∀ (n : Nat) (s : ByteArray) (w : World), s.size ≤ n → s.size ≤ 16384 → rightB s.data.toList = true → VarsOk w → Calls Tryz.prog 63 #[.string s] w fun e w' => e = .returned (.string (bs (keyF n s.data.toList))) ∧ Below w.heap.size w w'
  | 0, s, w, hn, _, hr, _ => by
    obtain ⟨x, hx⟩ := Option.isSome_iff_exists.1 hr
    have := right_pos hx
    have e : s.data.toList.length = s.size := rfl
    omega
  | n + 1, s, w, hn, hsz, hr, hv => by
    obtain ⟨x, hx⟩ := Option.isSome_iff_exists.1 hr
    have hpos := right_pos hx
    have e : s.data.toList.length = s.size := rfl
    by_cases hb : byte s.data.toList 0 = 86 ∨ byte s.data.toList 0 = 75
    · have hk := two_kids hx hb
      have hne : byte s.data.toList 0 ≠ 110 ∧ byte s.data.toList 0 ≠ 116 := by rcases hb with h | h <;> rw [h] <;> decide
      obtain ⟨m, nx, hh, hkl, -, -, -, hkids⟩ := right_kids hx hne.1 hne.2
      have hm : m = 2 := by omega
      subst hm
      obtain ⟨a1, a2, a3, a4⟩ := hkids 0 (by omega)
      obtain ⟨b1, b2, b3, b4⟩ := hkids 1 (by omega)
      have e1 : x.kids.getD (0 + 1) 0 = x.kids.getD 1 0 := rfl
      have e2 : x.kids.getD (1 + 1) 0 = x.kids.getD 2 0 := rfl
      rw [e1] at a2 a3 a4
      rw [e2] at b2 b3 b4
      have hp := pieces_two s x.kids hk
      have s0 : (s.extract (x.kids.getD 0 0) (x.kids.getD 1 0)).size ≤ n := by rw [ByteArray.size_extract]; omega
      have s1 : (s.extract (x.kids.getD 1 0) (x.kids.getD 2 0)).size ≤ n := by rw [ByteArray.size_extract]; omega
      have s0' : (s.extract (x.kids.getD 0 0) (x.kids.getD 1 0)).size ≤ 16384 := by rw [ByteArray.size_extract]; omega
      have s1' : (s.extract (x.kids.getD 1 0) (x.kids.getD 2 0)).size ≤ 16384 := by rw [ByteArray.size_extract]; omega
      have l0 := ext_list s (x.kids.getD 0 0) (x.kids.getD 1 0)
      have l1 := ext_list s (x.kids.getD 1 0) (x.kids.getD 2 0)
      have k0 := fun W hv => rkey_any n (s.extract (x.kids.getD 0 0) (x.kids.getD 1 0)) W s0 s0' (by rw [l0]; exact a4) hv
      have k1 := fun W hv => rkey_any n (s.extract (x.kids.getD 1 0) (x.kids.getD 2 0)) W s1 s1' (by rw [l1]; exact b4) hv
      have z0 := keyF_len n (s.extract (x.kids.getD 0 0) (x.kids.getD 1 0)).data.toList
      have z1 := keyF_len n (s.extract (x.kids.getD 1 0) (x.kids.getD 2 0)).data.toList
      have y0 : (s.extract (x.kids.getD 0 0) (x.kids.getD 1 0)).data.toList.length = (s.extract (x.kids.getD 0 0) (x.kids.getD 1 0)).size := rfl
      have y1 : (s.extract (x.kids.getD 1 0) (x.kids.getD 2 0)).data.toList.length = (s.extract (x.kids.getD 1 0) (x.kids.getD 2 0)).size := rfl
      rcases hb with hb | hb
      · have := rkey_join s x _ _ _ _ w (by omega) hx hb hp hv (by omega) (by omega) k0 k1
        have hK : keyF (n + 1) s.data.toList = 87 :: (keyF n (s.extract (x.kids.getD 0 0) (x.kids.getD 1 0)).data.toList ++ keyF n (s.extract (x.kids.getD 1 0) (x.kids.getD 2 0)).data.toList) := by
          rw [l0, l1]
          conv => lhs; unfold keyF
          rw [if_pos (.inl hb), hx]
          simp only
          rw [if_pos hb]
        rw [hK]
        exact this
      · have := rkey_bind s x _ _ _ w (by omega) hx hb hp hv (by omega) (by omega) k0
        have hK : keyF (n + 1) s.data.toList = 76 :: (keyF n (s.extract (x.kids.getD 0 0) (x.kids.getD 1 0)).data.toList ++ (s.extract (x.kids.getD 1 0) (x.kids.getD 2 0)).data.toList) := by
          rw [l0, l1]
          conv => lhs; unfold keyF
          rw [if_pos (.inr hb), hx]
          simp only
          rw [if_neg (by rw [hb]; decide)]
        rw [hK]
        exact this
    · have hK : keyF (n + 1) s.data.toList = 80 :: s.data.toList := by
        unfold keyF
        rw [if_neg hb]
      rw [hK]
      exact rkey_plain s x w (by omega) hx (fun h => hb (.inl h)) (fun h => hb (.inr h))
set_option maxRecDepth 100000 in
set_option maxHeartbeats 8000000 in
theorem rpub_any (s : ByteArray) (w : World) (hs : s.size ≤ 1000000) (hv : VarsOk w) : Calls Tryz.prog 41 #[.string s] w fun e w' => e = .returned (tupE (pubE s.data.toList)) ∧ Below w.heap.size w w' := by
  have HR := Lib.hid (rright_any s w hs)
  unfold pubE
  cases hq : rightB s.data.toList with
  | true =>
    rw [hq] at HR
    obtain ⟨x, hx⟩ := Option.isSome_iff_exists.1 hq
    obtain ⟨h16, -, -⟩ := right_some hx
    have h16' : s.size ≤ 16384 := h16
    have hK := fun W hv => rkey_any s.size s W (Nat.le_refl _) h16' hq hv
    have hlen := keyF_len s.size s.data.toList
    have hl2 : s.data.toList.length = s.size := rfl
    rw [if_pos rfl]
    have hT : keyT s.data.toList = keyF s.size s.data.toList := rfl
    rw [hT]
    obtain ⟨k, hk⟩ : ∃ k, keyF s.size s.data.toList = k := ⟨_, rfl⟩
    rw [hk] at hlen ⊢
    simp only [hk] at hK
    have hW := fun W => rmade_any (bs k) W (by rw [show (bs k).size = k.length by simp [bs, ByteArray.size]]; omega)
    simp only [bs_list] at hW
    obtain ⟨R, hR⟩ : ∃ R, madeE k = R := ⟨_, rfl⟩
    simp only [hR] at hW
    rw [hR]
    unfold tupE at hW ⊢
    have HK := Lib.hid hK
    have HW := Lib.hid hW
    have HV := Lib.hid hv
    clear hq hx hK hW hT hk hR hlen hl2 hv h16
    go_enter Tryz.func41, Tryz.ntmps41
    go_wp2_with fail
    refine HR.out.mono ?_
    rintro e w1 ⟨rfl, hb1⟩
    have HB1 := Lib.hid hb1; clear hb1
    go_wp2_with fail
    refine (HK.out w1 (HV.out.below HB1.out)).mono ?_
    rintro e w2 ⟨rfl, hb2⟩
    have HB2 := Lib.hid (HB1.out.trans (hb2.mono HB1.out.size)); clear hb2
    go_wp2_with fail
    refine (HW.out w2).mono ?_
    rintro e w3 ⟨rfl, hb3⟩
    have HB3 := Lib.hid (HB2.out.trans (hb3.mono HB2.out.size)); clear hb3
    go_wp2_with fail
    go_ret2
    exact ⟨rfl, HB3.out⟩
  | false =>
    rw [hq] at HR
    clear hq
    go_enter Tryz.func41, Tryz.ntmps41
    go_wp2_with fail
    refine HR.out.mono ?_
    rintro e w1 ⟨rfl, hb1⟩
    have HB := Lib.hid hb1
    clear hb1
    go_wp2_with fail
    go_ret2
    exact ⟨rfl, HB.out⟩
end Go.Proofs.YtaonadgelkdbcaaGreatDoor
