/- The document's Keys. -/
import Derived.Test.YtaonadgelkdbcaaGreatDoorQ23
import Derived.StillTailTactics
import Derived.Deep.RegionHeld3
import Derived.Deep.RegionWith
import Derived.Deep.DeepMust
namespace Go.Proofs.YtaonadgelkdbcaaGreatDoor
open Go.RowKit

/-- Secrets that are bound one behind the other. -/
def bindsE : List ByteArray → List ByteArray → Int × List (List UInt8) → Int × List (List UInt8)
  | f :: fr, t :: tr, r => bindsE fr tr (addE r (twoE 75 f.data.toList t.data.toList))
  | _, _, r => r
theorem bindsE_stop {r : Int × List (List UInt8)} (h : r.1 ≠ 0) : ∀ (f t : List ByteArray), bindsE f t r = r
  | [], _ => by unfold bindsE; rfl
  | _ :: _, [] => by unfold bindsE; rfl
  | f :: fr, t :: tr => by unfold bindsE; rw [addE_stop h]; exact bindsE_stop h fr tr
theorem bindsE_next {f t : List ByteArray} {k : Nat} (hf : k < f.length) (ht : k < t.length) (r : Int × List (List UInt8)) : bindsE (f.drop k) (t.drop k) r = bindsE (f.drop (k + 1)) (t.drop (k + 1)) (addE r (twoE 75 f[k].data.toList t[k].data.toList)) := by
  rw [List.drop_eq_getElem_cons hf, List.drop_eq_getElem_cons ht]
  conv => lhs; unfold bindsE
theorem bindsE_end {f t : List ByteArray} {k : Nat} (hf : f.length ≤ k) (r : Int × List (List UInt8)) : bindsE (f.drop k) (t.drop k) r = r := by
  rw [List.drop_of_length_le hf]
  unfold bindsE
  rfl
/-- What holds while the document's secrets come: the box of secrets; the row in slot 12. -/
structure RKInv (w : World) (s : SecR) (l : List ByteArray) (v : Value) (V : World) : Prop where
  below : Below w.heap.size w V
  vars0 : VarsOk w
  sec : V.heap[w.heap.size]? = some (.cells #[.string s.fund, .string s.rev, .string s.pay, .string s.later, .string s.htlc, .string s.seed] 54 (0, 0))
  row : Row V (w.heap.size + 1) 29 v (strs l)
  few : l.length ≤ 100
theorem RKInv.next {w V V' : World} {s : SecR} {l : List ByteArray} {v : Value} (h : RKInv w s l v V) (hb : Below V.heap.size V V') : RKInv w s l v V' := ⟨h.below.trans (hb.mono h.below.size), h.vars0, (hb.block _ (lt_of_block h.sec)).trans h.sec, h.row.below hb, h.few⟩
theorem RKInv.vars {w V : World} {s : SecR} {l : List ByteArray} {v : Value} (h : RKInv w s l v V) : VarsOk V := h.vars0.below h.below
theorem RKInv.drew {w V : World} {s : SecR} {l : List ByteArray} {v : Value} (h : RKInv w s l v V) : RKInv w s l v V.drew := ⟨⟨h.below.os, h.below.tape, h.below.output, h.below.size, h.below.block⟩, h.vars0, h.sec, h.row, h.few⟩
theorem RKInv.cells {w V : World} {s : SecR} {l : List ByteArray} {v : Value} (h : RKInv w s l v V) :
    V.cell? ⟨w.heap.size, 0, none⟩ = some (.string s.fund) ∧ V.cell? ⟨w.heap.size, 1, none⟩ = some (.string s.rev) ∧ V.cell? ⟨w.heap.size, 2, none⟩ = some (.string s.pay) ∧ V.cell? ⟨w.heap.size, 3, none⟩ = some (.string s.later) ∧ V.cell? ⟨w.heap.size, 4, none⟩ = some (.string s.htlc) ∧ V.cell? ⟨w.heap.size, 5, none⟩ = some (.string s.seed) :=
  ⟨(cell_block h.sec rfl).1, (cell_block h.sec rfl).1, (cell_block h.sec rfl).1, (cell_block h.sec rfl).1, (cell_block h.sec rfl).1, (cell_block h.sec rfl).1⟩
theorem RKInv.shape {w V : World} {s : SecR} {l : List ByteArray} {v : Value} (h : RKInv w s l v V) : ∃ (A : Option Addr) (c : Nat), v = .slice A l.length c := by
  obtain ⟨A, c, he, -, -⟩ := Row.shape h.row
  refine ⟨A, c, ?_⟩
  rw [he]
  simp [strs]
theorem RKInv.size {w V : World} {s : SecR} {l : List ByteArray} {v : Value} (h : RKInv w s l v V) : w.heap.size + 1 ≤ V.heap.size := lt_of_block h.sec
/-- Behind an append. -/
theorem RKInv.app {w V V' : World} {s : SecR} {l : List ByteArray} {v v' : Value} {x : ByteArray} (h : RKInv w s l v V) (hb : Below (w.heap.size + 1) V V') (hr : Row V' (w.heap.size + 1) 29 v' (strs l ++ [.string x])) (hf : l.length + 1 ≤ 100) : RKInv w s (l ++ [x]) v' V' :=
  ⟨h.below.trans (hb.mono (by omega)), h.vars0, (hb.block _ (by omega)).trans h.sec, by rw [show strs (l ++ [x]) = strs l ++ [Value.string x] by unfold strs; rw [List.map_append]; rfl]; exact hr, by rw [List.length_append]; simpa using hf⟩
theorem RKInv.first {w w1 : World} {s : SecR} (hb : Below w.heap.size w w1) (hlt : w.heap.size < w1.heap.size) (hs : w1.heap[w.heap.size]? = some (.cells #[.string s.fund, .string s.rev, .string s.pay, .string s.later, .string s.htlc, .string s.seed] 54 (0, 0))) (hv : VarsOk w) :
    RKInv w s [s.pay] (.slice (some ⟨w1.heap.size, 0, none⟩) 1 1) (w1.alloc (.cells #[.string s.pay] 29)) := by
  have b1 : Below w1.heap.size w1 (w1.alloc (.cells #[.string s.pay] 29)) := (Below.refl _ _).alloc (Nat.le_refl _) _
  have g1 := Go.heap_alloc_new w1 (.cells #[.string s.pay] 29)
  exact ⟨hb.trans (b1.mono hb.size), hv, (b1.block _ hlt).trans hs, .inr ⟨w1.heap.size, 0, 1, #[.string s.pay], (0, 0), rfl, by omega, g1, Free.none _, by simp [strs], by unfold maxLen; omega, by simp, rfl⟩, by simp⟩
/-- What an append to another slice leaves. -/
theorem RKInv.stays {w V V' : World} {s : SecR} {l : List ByteArray} {v : Value} {row : Option Nat} (h : RKInv w s l v V) (hb : Below (w.heap.size + 1) V V') (hg : V.grownBy V' row) (hr : row = none) : RKInv w s l v V' := by
  subst hr
  exact ⟨h.below.trans (hb.mono (by omega)), h.vars0, (hb.block _ (by omega)).trans h.sec, h.row.grown hg (by cases v.ownBlock <;> simp), h.few⟩
theorem apart_row {V V' : World} {base : Nat} {E : TypeId} {v : Value} {xs ys : List Value} {A : Option Addr} {n c : Nat} {E' : TypeId} (h : Row V base E v xs) (hr : Row V' V.heap.size E' (.slice A n c) ys) : Apart A v.ownBlock := fun ad he e => by
  subst he
  have h1 := (h.own _ e).2
  have h2 := (hr.own ad.block rfl).1
  omega
theorem apart_next {V : World} {A : Option Addr} {xs : List Value} {r r' : Option Nat} {g : Nat} (h : Apart A r) (hc : Cells V A xs) (hx : 0 < xs.length) (hg : V.heap.size ≤ g) (hat : r' = r ∨ r' = some g) : Apart A r' := fun ad he e => by
  rcases hat with rfl | rfl
  · exact h ad he e
  · injection e with e
    obtain ⟨ad', he', hcc⟩ := hc hx
    rw [he] at he'
    injection he' with he'
    subst he'
    have hl : (ad.add 0).block = ad.block := by unfold Addr.add; split <;> rfl
    have := World.block_lt_of_cell? V _ (hcc 0 xs[0] (List.getElem?_eq_getElem hx))
    omega
theorem apart_none (r : Option Nat) : Apart none r := fun _ h => by cases h
theorem row_reads {V : World} {base : Nat} {E : TypeId} {A : Option Addr} {n c : Nat} {xs : List Value} (h : Row V base E (.slice A n c) xs) : Cells V A xs := by
  obtain ⟨A', c', he, -, hc⟩ := Row.shape h
  injection he with h1 h2 h3
  subst h1
  exact hc
theorem strs_len (l : List ByteArray) : (strs l).length = l.length := by simp [strs]
theorem below_drew_self (V : World) : Below V.heap.size V V.drew := ⟨rfl, rfl, rfl, Nat.le_refl _, fun _ _ => rfl⟩
theorem none_below {V V' : World} {row : Option Nat} (hg : V.grownBy V' row) (hr : row = none) {B : Nat} (hB : B ≤ V.heap.size) : Below B V V' := by
  subst hr
  exact ⟨hg.os, hg.tape, hg.output, hg.size, fun i hi => hg.block i (by omega) (by simp)⟩
set_option maxRecDepth 100000 in
set_option maxHeartbeats 16000000 in
theorem rkeys_any (s : SecR) (tag mine : Int) (told point : ByteArray) (w : World) (zr : s.rev.size ≤ 400000) (zp : s.pay.size ≤ 400000) (zl : s.later.size ≤ 400000) (zh : s.htlc.size ≤ 400000) (zs : s.seed.size ≤ 400000) (zt : told.size ≤ 400000) (zq : point.size ≤ 400000) (hv : VarsOk w) :
    Calls Tryz.prog 15 #[secV s, .int .i64 tag, .int .i64 mine, .string told, .string point] w (KeysP (keysE s tag mine told.data.toList point.data.toList) w) := by
  have hbA : Below w.heap.size w (w.alloc (.cells #[.string s.fund, .string s.rev, .string s.pay, .string s.later, .string s.htlc, .string s.seed] 54)) := (Below.refl _ _).alloc (Nat.le_refl _) _
  have s0 : (w.alloc (.cells #[.string s.fund, .string s.rev, .string s.pay, .string s.later, .string s.htlc, .string s.seed] 54)).heap[w.heap.size]? = some (.cells #[.string s.fund, .string s.rev, .string s.pay, .string s.later, .string s.htlc, .string s.seed] 54 (0, 0)) := Go.heap_alloc_new w _
  have hR := rright_any s.pay (w.alloc (.cells #[.string s.fund, .string s.rev, .string s.pay, .string s.later, .string s.htlc, .string s.seed] 54)) (by omega)
  obtain ⟨q2, -⟩ := cell_block s0 (j := 2) rfl
  have HR := Lib.hid hR
  have HB := Lib.hid hbA
  have HS0 := Lib.hid s0
  have HV := Lib.hid hv
  unfold secV
  obtain ⟨R, hRR⟩ : ∃ R, keysE s tag mine told.data.toList point.data.toList = R := ⟨_, rfl⟩
  rw [hRR]
  have HRR := Lib.hid hRR
  unfold keysE at HRR
  clear hbA s0 hR hv hRR
  cases hq : rightB s.pay.data.toList with
  | false =>
    rw [hq] at HR HRR
    have HRQ := Lib.hid (show ((10, []) : Int × List (List UInt8)) = R from HRR.out)
    clear hq
    go_enter Tryz.func15, Tryz.ntmps15
    go_wp2_with fail
    refine HR.out.mono ?_
    rintro e w1 ⟨rfl, hb1⟩
    have HB1 := Lib.hid (HB.out.trans (hb1.mono HB.out.size))
    clear hb1
    go_wp2_with fail
    go_ret2
    rw [← HRQ.out]
    exact ⟨none, 0, rfl, Cells.nil _ _, HB1.out⟩
  | true =>
    rw [hq] at HR HRR
    have HRQ := Lib.hid (show keys3 s point.data.toList (keys2 s told.data.toList (keys1 s tag mine (0, [s.pay.data.toList]))) = R from HRR.out)
    clear HRR hq
    go_enter Tryz.func15, Tryz.ntmps15
    go_wp2_with fail
    refine HR.out.mono ?_
    rintro e w1 ⟨rfl, hb1⟩
    have HB1 := Lib.hid (HB.out.trans (hb1.mono HB.out.size))
    have HS1 := Lib.hid ((hb1.block _ (lt_of_block HS0.out)).trans HS0.out)
    obtain ⟨p2, -⟩ := cell_block HS1.out (j := 2) rfl
    clear hb1 q2
    have HI0 := Lib.hid (RKInv.first HB1.out (lt_of_block HS1.out) HS1.out HV.out)
    go_upto_if 34 with fail
    obtain ⟨v0, hv0⟩ : ∃ v0, (Value.slice (some ⟨w1.heap.size, 0, none⟩) 1 1) = v0 := ⟨_, rfl⟩
    obtain ⟨W, hW⟩ : ∃ W, w1.alloc (.cells #[.string s.pay] 29) = W := ⟨_, rfl⟩
    rw [hW, hv0] at HI0 ⊢
    clear hW hv0 p2
    obtain ⟨r1, hr1⟩ : ∃ r1, keys1 s tag mine (0, [s.pay.data.toList]) = r1 := ⟨_, rfl⟩
    rw [hr1] at HRQ
    have HR1 := Lib.hid hr1
    clear hr1
    go_cut [13, 14] (fun f t wx => ∃ (fl tl : List ByteArray) (A B : Option Addr) (ca cb : Nat), f = .slice A fl.length ca ∧ t = .slice B tl.length cb ∧ fl.length = tl.length ∧ fl.length ≤ 2 ∧ (∀ x ∈ fl, x.size ≤ 400000) ∧ (∀ x ∈ tl, x.size ≤ 400000) ∧ Cells wx A (strs fl) ∧ Cells wx B (strs tl) ∧ bindsE fl tl (0, [s.pay.data.toList]) = r1 ∧ RKInv w s [s.pay] v0 wx ∧ Apart A v0.ownBlock ∧ Apart B v0.ownBlock)
    case first =>
      by_cases htm : tag = mine
      · have gt : (tag == mine) = true := by rw [htm]; exact beq_self_eq_true _
        obtain ⟨c0, c1, c2, c3, c4, c5⟩ := HI0.out.cells
        have HP := Lib.hid (rpoint_any s mine (by omega) W HI0.out.vars)
        have hpl := pointE_len s.seed.data.toList mine
        have HRa := Lib.hid (show keys1 s tag mine (0, [s.pay.data.toList]) = r1 from HR1.out)
        unfold keys1 at HRa
        rw [if_pos htm] at HRa
        obtain ⟨x, hx⟩ : ∃ x, pointE s.seed.data.toList mine = x := ⟨_, rfl⟩
        rw [hx] at HP hpl HRa
        obtain ⟨pe, ps⟩ := x
        unfold tupE at HP
        clear hx htm
        by_cases h0 : pe = 0
        · subst h0
          have HRb := Lib.hid (show bindsE [s.later, s.htlc] [bs ps, bs ps] (0, [s.pay.data.toList]) = r1 by
            rw [← HRa.out]
            unfold bindsE
            unfold bindsE
            unfold bindsE
            rw [bs_list]
            exact (if_pos rfl).symm)
          have HPL := Lib.hid (show (bs ps).size ≤ 400000 by rw [size_bs]; have : ps.length ≤ 16384 := hpl; omega)
          clear hpl
          have tok1 : True := trivial
          go_wp2_with fail
          refine HP.out.mono ?_
          rintro e w2 ⟨rfl, hb2⟩
          have HK2 := Lib.hid (HI0.out.next hb2)
          obtain ⟨d0, d1, d2, d3, d4, d5⟩ := HK2.out.cells
          clear hb2 c0 c1 c2 c3 c4 c5
          have tok2 : True := trivial
          go_wp2_with (first
            | (at_builtin
               have _t := tok1
               refine wpList_row slTerm1 rfl (.tmp 44) (.tmp 49) rfl w2.heap.size (.slice none 0 0) [] (by rfl) (Row.nil _ _ _) ⟨w2.heap.size, 0, none⟩ 2 2 [.string s.later, .string s.htlc] (by rfl) (by rfl) (fun j u hj => World.news_of_block (Go.heap_alloc_new w2 _) j u hj) (by simp [Value.oneCell']) (by simp) (by simp) (by simp) ?_
               intro v3 w3 hr3 hg3 hb3 hat3
               obtain ⟨A3, c3, rfl, -, hc3⟩ := Row.shape hr3
               have HC3 := Lib.hid hc3
               have HK3 := Lib.hid ((HK2.out.next ((Below.refl _ _).alloc (Nat.le_refl _) _)).stays (hb3.mono HK2.out.size) hg3 (by simp [Value.ownBlock]))
               have HAP3 := Lib.hid (apart_row HK2.out.row hr3)
               clear tok1 _t hr3 hg3 hb3 hat3 hc3)
            | (at_builtin
               have _t := tok2
               refine wpList_row slTerm1 rfl (.tmp 51) (.tmp 54) rfl w3.heap.size (.slice none 0 0) [] (by rfl) (Row.nil _ _ _) ⟨w3.heap.size, 0, none⟩ 2 2 [.string (bs ps), .string (bs ps)] (by rfl) (by rfl) (fun j u hj => World.news_of_block (Go.heap_alloc_new w3 _) j u hj) (by simp [Value.oneCell']) (by simp) (by simp) (by simp) ?_
               intro v4 w4 hr4 hg4 hb4 hat4
               obtain ⟨A4, c4, rfl, -, hc4⟩ := Row.shape hr4
               have HC4 := Lib.hid hc4
               have HK4 := Lib.hid ((HK3.out.next ((Below.refl _ _).alloc (Nat.le_refl _) _)).stays (hb4.mono HK3.out.size) hg4 (by simp [Value.ownBlock]))
               have HAP4 := Lib.hid (apart_row HK3.out.row hr4)
               have HC3b := Lib.hid (Cells.below HC3.out (((Below.refl _ _).alloc (Nat.le_refl _) (.cells #[.string (bs ps), .string (bs ps)] 29) : Below w3.heap.size w3 _).trans (none_below hg4 (by simp [Value.ownBlock]) (by simp))))
               clear tok2 _t hr4 hg4 hb4 hat4 hc4))
          go_meet
          exact ⟨[s.later, s.htlc], [bs ps, bs ps], A3, A4, c3, c4, rfl, rfl, rfl, by simp, by intro x hx; simp only [List.mem_cons, List.not_mem_nil, or_false] at hx; rcases hx with rfl | rfl <;> assumption, by intro x hx; simp only [List.mem_cons, List.not_mem_nil, or_false] at hx; rcases hx with rfl | rfl <;> exact HPL.out, HC3b.out, HC4.out, HRb.out, HK4.out, HAP3.out, HAP4.out⟩
        · have g0 : (pe == 0) = false := beq_false_of_ne h0
          have HRb := Lib.hid (show ((pe, []) : Int × List (List UInt8)) = r1 by rw [← HRa.out]; exact (if_neg h0).symm)
          have h1 : r1.1 ≠ 0 := by rw [← HRb.out]; exact h0
          have HRE := Lib.hid (show R = (pe, []) by rw [← HRQ.out, keys2_err h1, keys3_err h1, ← HRb.out])
          clear h1 h0
          go_wp2_with fail
          refine HP.out.mono ?_
          rintro e w2 ⟨rfl, hb2⟩
          have HK2 := Lib.hid (HI0.out.next hb2)
          clear hb2
          go_wp2_with fail
          go_ret2
          rw [HRE.out]
          exact ⟨none, 0, rfl, Cells.nil _ _, HK2.out.below⟩
      · have gt : (tag == mine) = false := beq_false_of_ne htm
        have HRb := Lib.hid (show (0, [s.pay.data.toList]) = r1 by rw [← HR1.out]; unfold keys1; rw [if_neg htm])
        go_wp2_with fail
        go_meet
        exact ⟨[], [], none, none, 0, 0, rfl, rfl, rfl, by simp, by simp, by simp, Cells.nil _ _, Cells.nil _ _, by rw [← HRb.out]; unfold bindsE; rfl, HI0.out, apart_none _, apart_none _⟩
    case rest =>
      obtain ⟨fl, tl, A, B, ca, cb, rfl, rfl, hft, hfl2, hfs, hts, hca, hcb, hbe, hki, hapa, hapb⟩ := hcut
      have HFT := Lib.hid hft
      obtain ⟨A00, c00, rfl⟩ := hki.shape
      have HFS := Lib.hid hfs
      have HTS := Lib.hid hts
      have HCA := Lib.hid hca
      have HCB := Lib.hid hcb
      have HBE := Lib.hid hbe
      have HKI := Lib.hid hki
      have HAPA := Lib.hid hapa
      have HAPB := Lib.hid hapb
      clear hft hfs hts hca hcb hbe hki hapa hapb HI0
      go_wp2_with fail
      go_loopw [17, 12] (fun i v wr => ∃ (k : Nat) (l : List (List UInt8)), k ≤ fl.length ∧ i = .int .i64 (k : Int) ∧ bindsE (fl.drop k) (tl.drop k) (0, l) = r1 ∧ l.length ≤ 1 + k ∧ Cells wr A (strs fl) ∧ Cells wr B (strs tl) ∧ ∃ (A0 : Option Addr) (c0 : Nat), v = .slice A0 l.length c0 ∧ RKInv w s (l.map bs) (.slice A0 l.length c0) wr ∧ Apart A (Value.slice A0 l.length c0).ownBlock ∧ Apart B (Value.slice A0 l.length c0).ownBlock) (fun i _ _ => fl.length - (intOf i).toNat)
      case atStart => exact ⟨0, [s.pay.data.toList], Nat.zero_le _, rfl, by rw [List.drop_zero, List.drop_zero]; exact HBE.out, by simp, HCA.out, HCB.out, A00, c00, rfl, by rw [List.map_cons, List.map_nil, bs_of]; exact HKI.out, HAPA.out, HAPB.out⟩
      case round =>
        obtain ⟨k, l, hk, rfl, hbe, hll, hca, hcb, A0, c0, rfl, hki, hpa, hpb⟩ := hrel
        have HPA := Lib.hid hpa
        have HPB := Lib.hid hpb
        clear hpa hpb
        have HK := Lib.hid hki
        by_cases hlt : k < fl.length
        · have hlt2 : k < tl.length := by rw [← HFT.out]; exact hlt
          have hbn := bindsE_next hlt hlt2 (0, l)
          rw [hbn] at hbe
          have zf := HFS.out _ (List.getElem_mem hlt)
          have zt2 := HTS.out _ (List.getElem_mem hlt2)
          have HCA2 := Lib.hid (Cells.below hca (below_drew_self wr))
          have HCB2 := Lib.hid (Cells.below hcb (below_drew_self wr))
          obtain ⟨ad, rfl, a0⟩ := strs_at hca hlt
          obtain ⟨bd, rfl, b0⟩ := strs_at hcb hlt2
          obtain ⟨f, hf⟩ : ∃ f, fl[k] = f := ⟨_, rfl⟩
          obtain ⟨t, ht⟩ : ∃ t, tl[k] = t := ⟨_, rfl⟩
          rw [hf, ht] at hbe
          rw [hf] at a0 zf
          rw [ht] at b0 zt2
          have hBD := fun V => r16bind_any f t V zf zt2
          obtain ⟨x, hx⟩ : ∃ x, twoE 75 f.data.toList t.data.toList = x := ⟨_, rfl⟩
          rw [hx] at hbe
          simp only [hx] at hBD
          unfold tupE at hBD
          have HBD := Lib.hid hBD
          have HBE2 := Lib.hid hbe
          have HKD := Lib.hid hki.drew
          obtain ⟨nf, hnf⟩ : ∃ nf, fl.length = nf := ⟨_, rfl⟩
          obtain ⟨nt, hnt⟩ : ∃ nt, tl.length = nt := ⟨_, rfl⟩
          have HNF := Lib.hid hnf
          have HNT := Lib.hid hnt
          rw [hnf] at hlt hfl2
          rw [hnt] at hlt2
          clear hBD hx hf ht hca hcb hbn hbe hki HK hnf hnt
          go_upto_region 14 with fail
          rw [HNF.out, HNT.out]
          have a0d : wr.drew.cell? (ad.add k) = some (.string f) := a0
          have b0d : wr.drew.cell? (bd.add k) = some (.string t) := b0
          go_region_held3 (fun V => V.cell? (ad.add k) = some (.string f) ∧ V.cell? (bd.add k) = some (.string t))
            (first | exact ⟨a0, b0⟩ | exact ⟨a1, b1⟩)
            (first
              | (go_at_call 39; (with_reducible refine (HBD.out _).mono ?_); rintro e w2 ⟨rfl, hb2⟩; have HK2 := Lib.hid (HKD.out.next hb2); have HCA3 := Lib.hid (Cells.below HCA2.out hb2); have HCB3 := Lib.hid (Cells.below HCB2.out hb2); have a1 := cell_below hb2 a0d; have b1 := cell_below hb2 b0d; clear hb2))
          by_cases hx0 : x.1 = 0
          · have HBE3 := Lib.hid (show bindsE (fl.drop (k + 1)) (tl.drop (k + 1)) (0, l ++ [x.2]) = r1 by rw [← HBE2.out, addE_ok hx0])
            have g1 : (x.1 == 0) = true := by rw [hx0]; rfl
            clear hx0
            have hl3 : (l.map bs).length + 1 ≤ 100 := by rw [List.length_map]; omega
            go_wp2_with (at_builtin; go_must (
                         refine wpList_row1 slTerm1 rfl (.tmp 77) (.tmp 79) rfl (w.heap.size + 1) (.slice A0 l.length c0) (strs (l.map bs)) (by rfl) HK2.out.row (.string (bs x.2)) (by rfl) (by rfl) (by have := HK2.out.few; rw [strs_len]; omega) (by have := HK2.out.few; rw [strs_len]; omega) HK2.out.size ?_
                         intro av aw hr6 hg6 hb6 hat6
                         have ha0 := HK2.out.app hb6 hr6 hl3
                         obtain ⟨Av, cv, rfl⟩ := ha0.shape
                         have hll2 : (l.map bs ++ [bs x.2]).length = l.length + 1 := by rw [List.length_append, List.length_map]; rfl
                         rw [hll2] at ha0 hat6
                         have Ha := Lib.hid ha0
                         have HFA := Lib.hid hg6
                         have HAT := Lib.hid hat6
                         clear hr6 hg6 hb6 hat6 ha0 hll2))
            go_roundw
            case rel =>
              obtain rfl := HNF.out
              obtain rfl := HNT.out
              repeat apply Exists.intro
              refine ⟨?_, rfl⟩
              have h0f : 0 < (strs fl).length := by rw [strs_len]; omega
              have h0t : 0 < (strs tl).length := by rw [strs_len]; omega
              refine ⟨k + 1, l ++ [x.2], by omega, by go_num, HBE3.out, by rw [List.length_append]; simp; omega, cells_grown HCA3.out HFA.out HPA.out, cells_grown HCB3.out HFA.out HPB.out, Av, cv, by rw [List.length_append]; rfl, by rw [List.map_append, List.length_append]; exact Ha.out, ?_, ?_⟩
              · rw [show (l ++ [x.2]).length = l.length + 1 by simp]
                exact apart_next HPA.out HCA3.out h0f (Nat.le_succ _) HAT.out
              · rw [show (l ++ [x.2]).length = l.length + 1 by simp]
                exact apart_next HPB.out HCB3.out h0t (Nat.le_succ _) HAT.out
            case measure => (obtain rfl := HNF.out; simp [intOf] <;> omega)
          · have g0 : (x.1 == 0) = false := beq_false_of_ne hx0
            have HRb := Lib.hid (show ((x.1, []) : Int × List (List UInt8)) = r1 by rw [← HBE2.out, addE_err hx0, bindsE_stop (by exact hx0)])
            have h1 : r1.1 ≠ 0 := by rw [← HRb.out]; exact hx0
            have HRE := Lib.hid (show R = (x.1, []) by rw [← HRQ.out, keys2_err h1, keys3_err h1, ← HRb.out])
            clear h1 hx0
            go_wp2_with fail
            go_ret2
            rw [HRE.out]
            exact ⟨none, 0, rfl, Cells.nil _ _, HK2.out.below⟩
        · have HRb := Lib.hid (show (0, l) = r1 by rw [← hbe, bindsE_end (by omega)])
          have hl3 : l.length ≤ 3 := by omega
          have gk : decide ((k : Int) < (fl.length : Int)) = false := decide_eq_false (by omega)
          clear hbe hca hcb hki hll
          have HKa := Lib.hid (show RKInv w s (l.map bs) (.slice A0 l.length c0) wr from HK.out)
          obtain ⟨r2, hr2⟩ : ∃ r2, keys2 s told.data.toList r1 = r2 := ⟨_, rfl⟩
          rw [hr2] at HRQ
          have HR2 := Lib.hid (show keys2 s told.data.toList (0, l) = r2 by rw [← hr2, ← HRb.out])
          clear hr2 HK
          go_upto_if 82 with fail
          go_cut [12] (fun v wx => ∃ (m : List (List UInt8)) (A1 : Option Addr) (c1 : Nat), v = .slice A1 m.length c1 ∧ m.length ≤ 5 ∧ r2 = (0, m) ∧ RKInv w s (m.map bs) (.slice A1 m.length c1) wx)
          case first =>
            by_cases ht : told.toList = []
            · have HRc := Lib.hid (show r2 = (0, l) by rw [← HR2.out]; unfold keys2; rw [if_pos (str_ne.2 ht)])
              rw [show told.toList.isEmpty = true by rw [ht]; rfl]
              simp only [Bool.not_true]
              go_wp2_with fail
              go_meet
              exact ⟨l, A0, c0, rfl, by omega, HRc.out, HKa.out⟩
            · rw [show told.toList.isEmpty = false from List.isEmpty_eq_false_iff.2 ht]
              simp only [Bool.not_false]
              have hRV := fun V => r16revoke_any s.rev told V zr zt
              have hPB := fun V hv => rpub_any told V (by omega) hv
              have hpl := pubE_len told.data.toList
              have HRc := Lib.hid (show keys2 s told.data.toList (0, l) = r2 from HR2.out)
              unfold keys2 at HRc
              rw [if_neg (fun h => ht (str_ne.1 h))] at HRc
              obtain ⟨x1, hx1⟩ : ∃ x1, twoE 86 s.rev.data.toList told.data.toList = x1 := ⟨_, rfl⟩
              rw [hx1] at HRc
              simp only [hx1] at hRV
              obtain ⟨x2, hx2⟩ : ∃ x2, pubE told.data.toList = x2 := ⟨_, rfl⟩
              rw [hx2] at HRc hpl
              simp only [hx2] at hPB
              obtain ⟨pe, ps⟩ := x2
              have hBD := fun V => r16bind_any s.htlc (bs ps) V zh (by rw [size_bs]; have : ps.length ≤ 16384 := hpl; omega)
              simp only [bs_list] at hBD
              obtain ⟨x3, hx3⟩ : ∃ x3, twoE 75 s.htlc.data.toList ps = x3 := ⟨_, rfl⟩
              simp only [hx3] at hBD HRc
              unfold tupE at hRV hPB
              unfold tupE bs at hBD
              have HRV := Lib.hid hRV
              have HPU := Lib.hid hPB
              have HBD := Lib.hid hBD
              obtain ⟨c0', c1, c2, c3, c4, c5⟩ := HKa.out.cells
              clear hRV hPB hBD hx1 hx2 hx3 hpl ht
              have hl4 : (l.map bs).length + 1 ≤ 100 := by rw [List.length_map]; omega
              by_cases h1 : x1.1 = 0
              · have g1 : (x1.1 == 0) = true := by rw [h1]; rfl
                have e1 := addE_ok (l := l) h1
                rw [e1] at HRc
                obtain ⟨l2, hl2⟩ : ∃ l2, l ++ [x1.2] = l2 := ⟨_, rfl⟩
                rw [hl2] at HRc
                have hl5 : (l2.map bs).length + 1 ≤ 100 := by rw [List.length_map, ← hl2, List.length_append]; simp; omega
                have hlen2 : l2.length = l.length + 1 := by rw [← hl2]; simp
                have HL2 := Lib.hid hl2
                have HLN2 := Lib.hid hlen2
                have hl24 : l2.length ≤ 4 := by omega
                clear h1 e1 hl2 hlen2
                go_wp2_with fail
                refine (HRV.out _).mono ?_
                rintro e w2 ⟨rfl, hb2⟩
                have HKb := Lib.hid (HKa.out.next hb2)
                clear hb2 c0' c1 c2 c3 c4 c5
                obtain ⟨Ad0, cd0, hAd⟩ : ∃ (a : Option Addr) (c : Nat), a = A0 ∧ c = c0 := ⟨_, _, rfl, rfl⟩
                obtain ⟨rfl, rfl⟩ := hAd
                go_wp2_with (at_builtin; go_must (
                             refine wpList_row1 slTerm1 rfl (.tmp 93) (.tmp 95) rfl (w.heap.size + 1) (.slice Ad0 l.length cd0) (strs (l.map bs)) (by rfl) HKb.out.row (.string (bs x1.2)) (by rfl) (by rfl) (by have := HKb.out.few; rw [strs_len]; omega) (by have := HKb.out.few; rw [strs_len]; omega) HKb.out.size ?_
                             intro v6 wd hr6 hg6 hb6 hat6
                             have ha0 := HKb.out.app hb6 hr6 hl4
                             obtain ⟨Ad, cd, rfl⟩ := ha0.shape
                             have hll2 : (l.map bs ++ [bs x1.2]).length = l.length + 1 := by rw [List.length_append, List.length_map]; rfl
                             rw [hll2] at ha0
                             have HKd := Lib.hid ha0
                             clear hr6 hg6 hb6 hat6 ha0 hll2))
                refine (HPU.out _ HKd.out.vars).mono ?_
                rintro e w5 ⟨rfl, hb5⟩
                have hke := HKd.out.next hb5
                rw [show l.map bs ++ [bs x1.2] = l2.map bs by rw [← HL2.out, List.map_append]; rfl, ← HLN2.out] at hke
                have HKe := Lib.hid hke
                obtain ⟨d0, d1, d2, d3, d4, d5⟩ := HKe.out.cells
                clear hb5 hke
                by_cases hpe : pe = 0
                · subst hpe
                  have HRd := Lib.hid (show addE (0, l2) x3 = r2 by rw [← HRc.out]; simp)
                  by_cases h3 : x3.1 = 0
                  · have g3 : (x3.1 == 0) = true := by rw [h3]; rfl
                    have HRe := Lib.hid (show r2 = (0, l2 ++ [x3.2]) by rw [← HRd.out, addE_ok h3])
                    clear h3
                    go_wp2_with fail
                    refine (HBD.out _).mono ?_
                    rintro e w7 ⟨rfl, hb7⟩
                    have HKf := Lib.hid (HKe.out.next hb7)
                    clear hb7 d0 d1 d2 d3 d4 d5
                    rw [← HLN2.out]
                    obtain ⟨Ag0, cg0, hAg⟩ : ∃ (a : Option Addr) (c : Nat), a = Ad ∧ c = cd := ⟨_, _, rfl, rfl⟩
                    obtain ⟨rfl, rfl⟩ := hAg
                    go_wp2_with (at_builtin; go_must (
                                 refine wpList_row1 slTerm1 rfl (.tmp 115) (.tmp 117) rfl (w.heap.size + 1) (.slice Ag0 l2.length cg0) (strs (l2.map bs)) (by rfl) HKf.out.row (.string (bs x3.2)) (by rfl) (by rfl) (by have := HKf.out.few; rw [strs_len]; omega) (by have := HKf.out.few; rw [strs_len]; omega) HKf.out.size ?_
                                 intro v6 wg hr6 hg6 hb6 hat6
                                 have ha0 := HKf.out.app hb6 hr6 hl5
                                 obtain ⟨Ag, cg, rfl⟩ := ha0.shape
                                 have hll2 : (l2.map bs ++ [bs x3.2]).length = l2.length + 1 := by rw [List.length_append, List.length_map]; rfl
                                 rw [hll2] at ha0
                                 have HKg := Lib.hid ha0
                                 clear hr6 hg6 hb6 hat6 ha0 hll2))
                    go_meet
                    exact ⟨l2 ++ [x3.2], Ag, cg, by rw [List.length_append]; rfl, by rw [List.length_append]; simp; omega, HRe.out, by rw [List.map_append, List.length_append]; exact HKg.out⟩
                  · have g3 : (x3.1 == 0) = false := beq_false_of_ne h3
                    have HRe := Lib.hid (show ((x3.1, []) : Int × List (List UInt8)) = r2 by rw [← HRd.out, addE_err h3])
                    have h4 : r2.1 ≠ 0 := by rw [← HRe.out]; exact h3
                    have HRE := Lib.hid (show R = (x3.1, []) by rw [← HRQ.out, keys3_err h4, ← HRe.out])
                    clear h4 h3
                    go_wp2_with fail
                    refine (HBD.out _).mono ?_
                    rintro e w7 ⟨rfl, hb7⟩
                    have HKf := Lib.hid (HKe.out.next hb7)
                    clear hb7 d0 d1 d2 d3 d4 d5
                    go_wp2_with fail
                    go_ret2
                    rw [HRE.out]
                    exact ⟨none, 0, rfl, Cells.nil _ _, HKf.out.below⟩
                · have g2 : (pe == 0) = false := beq_false_of_ne hpe
                  have HRd := Lib.hid (show ((pe, []) : Int × List (List UInt8)) = r2 by rw [← HRc.out]; simp [hpe])
                  have h4 : r2.1 ≠ 0 := by rw [← HRd.out]; exact hpe
                  have HRE := Lib.hid (show R = (pe, []) by rw [← HRQ.out, keys3_err h4, ← HRd.out])
                  clear h4 hpe
                  go_wp2_with fail
                  go_ret2
                  rw [HRE.out]
                  exact ⟨none, 0, rfl, Cells.nil _ _, HKe.out.below⟩
              · have g1 : (x1.1 == 0) = false := beq_false_of_ne h1
                have e1 := addE_err (l := l) h1
                rw [e1] at HRc
                have HRd := Lib.hid (show ((x1.1, []) : Int × List (List UInt8)) = r2 by rw [← HRc.out]; exact (if_neg h1).symm)
                have h4 : r2.1 ≠ 0 := by rw [← HRd.out]; exact h1
                have HRE := Lib.hid (show R = (x1.1, []) by rw [← HRQ.out, keys3_err h4, ← HRd.out])
                clear h4 h1 e1
                go_wp2_with fail
                refine (HRV.out _).mono ?_
                rintro e w2 ⟨rfl, hb2⟩
                have HKb := Lib.hid (HKa.out.next hb2)
                clear hb2
                go_wp2_with fail
                go_ret2
                rw [HRE.out]
                exact ⟨none, 0, rfl, Cells.nil _ _, HKb.out.below⟩
          case rest =>
            obtain ⟨m, A1, c1, rfl, hm5, hr2m, hkm⟩ := hcut
            have HKm := Lib.hid hkm
            have HRm := Lib.hid (show keys3 s point.data.toList (0, m) = R by rw [← HRQ.out, hr2m])
            clear hkm hr2m
            go_upto_if 120 with fail
            by_cases hp : point.toList = []
            · have HRc := Lib.hid (show (0, m) = R by rw [← HRm.out]; unfold keys3; rw [if_pos (str_ne.2 hp)])
              rw [show point.toList.isEmpty = true by rw [hp]; rfl]
              simp only [Bool.not_true]
              go_wp2_with fail
              go_ret2
              refine ⟨A1, c1, by rw [← HRc.out, List.length_map]; rfl, ?_, HKm.out.below⟩
              rw [← HRc.out]
              exact row_reads HKm.out.row
            · rw [show point.toList.isEmpty = false from List.isEmpty_eq_false_iff.2 hp]
              simp only [Bool.not_false]
              have HRc := Lib.hid (show addE (0, m) (twoE 75 s.htlc.data.toList point.data.toList) = R by rw [← HRm.out]; unfold keys3; rw [if_neg (fun h => hp (str_ne.1 h))])
              have hBD := fun V => r16bind_any s.htlc point V zh zq
              obtain ⟨x3, hx3⟩ : ∃ x3, twoE 75 s.htlc.data.toList point.data.toList = x3 := ⟨_, rfl⟩
              rw [hx3] at HRc
              simp only [hx3] at hBD
              unfold tupE at hBD
              have HBD := Lib.hid hBD
              obtain ⟨d0, d1, d2, d3, d4, d5⟩ := HKm.out.cells
              have hm6 : (m.map bs).length + 1 ≤ 100 := by rw [List.length_map]; omega
              clear hBD hx3 hp
              by_cases h3 : x3.1 = 0
              · have g3 : (x3.1 == 0) = true := by rw [h3]; rfl
                have HRe := Lib.hid (show (0, m ++ [x3.2]) = R by rw [← HRc.out, addE_ok h3])
                clear h3
                go_wp2_with fail
                refine (HBD.out _).mono ?_
                rintro e w7 ⟨rfl, hb7⟩
                have HKf := Lib.hid (HKm.out.next hb7)
                clear hb7 d0 d1 d2 d3 d4 d5
                obtain ⟨Ah0, ch0, hAh⟩ : ∃ (a : Option Addr) (c : Nat), a = A1 ∧ c = c1 := ⟨_, _, rfl, rfl⟩
                obtain ⟨rfl, rfl⟩ := hAh
                go_wp2_with (at_builtin; go_must (
                             refine wpList_row1 slTerm1 rfl (.tmp 131) (.tmp 133) rfl (w.heap.size + 1) (.slice Ah0 m.length ch0) (strs (m.map bs)) (by rfl) HKf.out.row (.string (bs x3.2)) (by rfl) (by rfl) (by have := HKf.out.few; rw [strs_len]; omega) (by have := HKf.out.few; rw [strs_len]; omega) HKf.out.size ?_
                             intro v6 wh hr6 hg6 hb6 hat6
                             have ha0 := HKf.out.app hb6 hr6 hm6
                             obtain ⟨Ah, ch, rfl⟩ := ha0.shape
                             have hll2 : (m.map bs ++ [bs x3.2]).length = m.length + 1 := by rw [List.length_append, List.length_map]; rfl
                             rw [hll2] at ha0
                             have HKh := Lib.hid ha0
                             clear hr6 hg6 hb6 hat6 ha0 hll2))
                go_ret2
                refine ⟨Ah, ch, by rw [← HRe.out, List.length_map, List.length_append]; rfl, ?_, HKh.out.below⟩
                rw [← HRe.out]
                have := row_reads HKh.out.row
                show Cells _ _ (strs ((m ++ [x3.2]).map bs))
                rw [List.map_append]
                exact this
              · have g3 : (x3.1 == 0) = false := beq_false_of_ne h3
                have HRe := Lib.hid (show ((x3.1, []) : Int × List (List UInt8)) = R by rw [← HRc.out, addE_err h3])
                clear h3
                go_wp2_with fail
                refine (HBD.out _).mono ?_
                rintro e w7 ⟨rfl, hb7⟩
                have HKf := Lib.hid (HKm.out.next hb7)
                clear hb7 d0 d1 d2 d3 d4 d5
                go_wp2_with fail
                go_ret2
                rw [← HRe.out]
                exact ⟨none, 0, rfl, Cells.nil _ _, HKf.out.below⟩
end Go.Proofs.YtaonadgelkdbcaaGreatDoor
