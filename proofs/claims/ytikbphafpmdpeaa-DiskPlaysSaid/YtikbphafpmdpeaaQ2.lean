/- The document's Remove, Len, Read, Used, Fail, New, Copy. · The document's Read, New, Copy. · The document's Copy. -/
import Derived.Test.YtikbphafpmdpeaaQ1
import Derived.Lib.ConvBytes
set_option linter.all false
namespace Go.Proofs.Ytikbphafpmdpeaa
open Go.RowKit

theorem findI_none {fs : List RFile} {name : ByteArray} (h : findR fs name = none) : findI fs name = -1 := by unfold findI; rw [h]
theorem findI_some {fs : List RFile} {name : ByteArray} {i : Nat} (h : findR fs name = some i) : findI fs name = i := by unfold findI; rw [h]
/-- What a call answers and leaves. -/
def ROp (w : World) (p : Nat) (vf vo : Value) (r : Int × RefT) (e : Ending) (w' : World) : Prop := e = .returned (.int .i64 r.1) ∧ RfP w p vf vo r.2 w'
theorem ROp.same {w : World} {p : Nat} {vf vo : Value} {vs : List Value} {m : RefT} (h : RfAt w p vf vo vs m) (r : Int × RefT) (k : Int) (hr : r = (k, m)) : ROp w p vf vo r (.returned (.int .i64 k)) w := by
  subst hr
  exact ⟨rfl, RfP.here h (Fr.refl _ _)⟩
theorem steps_no {m : RefT} {f : RefT → RefT} (h : (stepR m).1 = false) : stepsR m f = (7, (stepR m).2) := by unfold stepsR; rw [h]; rfl
theorem steps_yes {m : RefT} {f : RefT → RefT} (h : (stepR m).1 = true) : stepsR m f = (0, f (stepR m).2) := by unfold stepsR; rw [h]; rfl
theorem RfP.first {w w1 w2 : World} {p : Nat} {vf vo : Value} {m2 : RefT} (hf : Fr [p] w w1) (h : RfP w1 p vf vo m2 w2) : RfP w p vf vo m2 w2 :=
  RfP.trans (hf.mono fun i hi _ => by simp at hi; subst hi; simp [fpR]) (fun i hi => .inl hi) h
section
variable {p : Nat} {vf vo : Value} {vs : List Value} {m : RefT} {w : World}
set_option maxHeartbeats 2000000 in
theorem rremove_any (h : RfAt w p vf vo vs m) (hi : RInv m) (hc : m.count ≤ 3999999999) (name : ByteArray) :
    Calls Try.prog 34 #[.pointer (some ⟨p, 0, none⟩), .string name] w (ROp w p vf vo (removeR m name)) := by
  have c8 := h.cell.2.2.2.2.2.2.2.2
  have H := Lib.hid h
  have HI := Lib.hid hi
  have hF := rfind_any name h (Nat.le_trans hi.files (by decide))
  have HST := Lib.hid (rstep_any h hc hi.inn)
  obtain ⟨dn, hdn⟩ : ∃ dn, m.down = dn := ⟨_, rfl⟩
  rw [hdn] at c8
  have HD := Lib.hid hdn
  clear h hi hdn
  cases hf : findR m.files name with
  | none =>
    rw [findI_none hf] at hF
    have HF := Lib.hid hF
    have HQ := Lib.hid hf
    clear hF hf
    cases dn
    · have hr : removeR m name = (91, m) := by unfold removeR; rw [if_neg (by rw [HD.out]; simp), HQ.out]
      have HR := Lib.hid hr
      clear hr
      go_enter Try.func34, Try.ntmps34
      go_wp2_with fail
      refine HF.out.mono ?_
      rintro e w1 ⟨rfl, rfl⟩
      go_wp2_with fail
      go_ret
      exact ROp.same H.out _ _ HR.out
    · have hr : removeR m name = (7, m) := by unfold removeR; rw [if_pos HD.out]
      have HR := Lib.hid hr
      clear hr
      go_enter Try.func34, Try.ntmps34
      go_wp2_with fail
      refine HF.out.mono ?_
      rintro e w1 ⟨rfl, rfl⟩
      go_wp2_with fail
      go_ret
      exact ROp.same H.out _ _ HR.out
  | some i =>
    rw [findI_some hf] at hF
    have HF := Lib.hid hF
    have HQ := Lib.hid hf
    clear hF hf
    cases dn
    · obtain ⟨sb, hsb⟩ : ∃ sb, (stepR m).1 = sb := ⟨_, rfl⟩
      have HSB := Lib.hid hsb
      have hst := HST.out
      rw [hsb] at hst
      have HST2 := Lib.hid hst
      clear hsb hst
      have hi0 : ¬ ((i : Int) < 0) := by omega
      cases sb
      · have hr : removeR m name = (7, (stepR m).2) := by unfold removeR; rw [if_neg (by rw [HD.out]; simp), HQ.out]; exact steps_no HSB.out
        have HR := Lib.hid hr
        clear hr
        go_enter Try.func34, Try.ntmps34
        go_wp2_with fail
        refine HF.out.mono ?_
        rintro e w1 ⟨rfl, rfl⟩
        go_wp2_with fail
        refine HST2.out.mono ?_
        rintro e w1 ⟨rfl, hA, hB⟩
        have HA := Lib.hid hA
        have HB := Lib.hid hB
        clear hA hB
        go_wp2_with fail
        go_ret
        rw [HR.out]
        exact ⟨rfl, RfP.here HA.out HB.out⟩
      · have hr : removeR m name = (0, dropR (stepR m).2 i) := by unfold removeR; rw [if_neg (by rw [HD.out]; simp), HQ.out]; exact steps_yes HSB.out
        have HR := Lib.hid hr
        clear hr
        go_enter Try.func34, Try.ntmps34
        go_wp2_with fail
        refine HF.out.mono ?_
        rintro e w1 ⟨rfl, rfl⟩
        go_wp2_with fail
        refine HST2.out.mono ?_
        rintro e w1 ⟨rfl, hA, hB⟩
        have HA := Lib.hid hA
        have HB := Lib.hid hB
        clear hA hB
        go_wp2_with fail
        refine (drop_any (i := i) HA.out (HI.out.step.small (by rw [stepR_count]; split <;> omega)) (by obtain ⟨f, -, -, h4⟩ := findR_some HQ.out; rw [(stepR_files m).1]; exact h4)).mono ?_
        rintro e w2 ⟨rfl, hP⟩
        have HP := Lib.hid hP
        clear hP
        go_wp2_with fail
        go_ret
        rw [HR.out]
        exact ⟨rfl, RfP.first HB.out HP.out⟩
    · have hr : removeR m name = (7, m) := by unfold removeR; rw [if_pos HD.out]
      have HR := Lib.hid hr
      clear hr
      go_enter Try.func34, Try.ntmps34
      go_wp2_with fail
      refine HF.out.mono ?_
      rintro e w1 ⟨rfl, rfl⟩
      go_wp2_with fail
      go_ret
      exact ROp.same H.out _ _ HR.out
set_option maxHeartbeats 2000000 in
theorem rlen_any (h : RfAt w p vf vo vs m) (hi : RInv m) (hc : m.count ≤ 4000000000) (name : ByteArray) :
    Calls Try.prog 36 #[.pointer (some ⟨p, 0, none⟩), .string name] w fun e w' => e = .returned (.tuple #[.int .i64 (lenR m name).2, .int .i64 (lenR m name).1]) ∧ Below w.heap.size w w' := by
  have c8 := h.cell.2.2.2.2.2.2.2.2
  have H := Lib.hid h
  have HI := Lib.hid hi
  have hF := rfind_any name h (Nat.le_trans hi.files (by decide))
  have HSM := Lib.hid (hi.small hc)
  obtain ⟨dn, hdn⟩ : ∃ dn, m.down = dn := ⟨_, rfl⟩
  rw [hdn] at c8
  have HD := Lib.hid hdn
  clear h hi hdn
  cases dn
  · cases hf : findR m.files name with
    | none =>
      rw [findI_none hf] at hF
      have HF := Lib.hid hF
      have hr : lenR m name = (91, 0) := by unfold lenR; rw [if_neg (by rw [HD.out]; simp), hf]
      rw [hr]
      clear hF hf hr
      go_enter Try.func36, Try.ntmps36
      go_wp2_with fail
      refine HF.out.mono ?_
      rintro e w1 ⟨rfl, rfl⟩
      go_wp2_with fail
      go_ret2
      exact ⟨rfl, Below.refl _ _⟩
    | some i =>
      rw [findI_some hf] at hF
      have HF := Lib.hid hF
      obtain ⟨f, hfi, -, hlt⟩ := findR_some hf
      have hfe : m.files[i] = f := (List.getElem?_eq_some_iff.1 hfi).2
      have hr : lenR m name = (0, (pagesR m f).length) := by unfold lenR; rw [if_neg (by rw [HD.out]; simp), hf]; simp only; rw [hfi]
      have HP := Lib.hid (hfe ▸ pages_any H.out HSM.out hlt)
      have hi0 : ¬ ((i : Int) < 0) := by omega
      rw [hr]
      clear hF hf hr hfi hfe
      go_enter Try.func36, Try.ntmps36
      go_wp2_with fail
      refine HF.out.mono ?_
      rintro e w1 ⟨rfl, rfl⟩
      go_wp2_with fail
      refine HP.out.mono ?_
      rintro e w2 ⟨v, rfl, hrow, hb⟩
      obtain ⟨A, c, hsh, -, -⟩ := hrow.shape
      rw [List.length_map] at hsh
      subst hsh
      have HB := Lib.hid hb
      clear hrow hb
      go_wp2_with fail
      go_ret2
      exact ⟨rfl, HB.out⟩
  · have hr : lenR m name = (7, 0) := by unfold lenR; rw [if_pos HD.out]
    rw [hr]
    clear hr
    go_enter Try.func36, Try.ntmps36
    go_wp2_with fail
    go_ret2
    exact ⟨rfl, Below.refl _ _⟩
end
set_option maxRecDepth 100000 in
set_option maxHeartbeats 2000000 in
theorem rused_any {p : Nat} {vf vo : Value} {vs : List Value} {m : RefT} {w : World} (h : RfAt w p vf vo vs m) (hi : Small m) :
    Calls Try.prog 54 #[.pointer (some ⟨p, 0, none⟩)] w fun e w' => e = .returned (.int .i64 (usedR m)) ∧ Below w.heap.size w w' := by
  have hlf := hi.files
  obtain ⟨Af, cf, rfl, -, hcf⟩ := h.files
  have c0 := h.cell.1
  have H := Lib.hid h
  have HS := Lib.hid hi
  have hsum : ∀ k, ((m.files.take k).map fun f => (pagesR m f).length).sum ≤ k * 4000000000 := by
    intro k
    induction k with
    | zero => simp
    | succ k ih =>
      rw [List.take_add_one, List.map_append, List.sum_append]
      cases hg : m.files[k]? with
      | none =>
        have e : (Option.toList (none : Option RFile)) = [] := rfl
        rw [e, List.map_nil, List.sum_nil, Nat.add_zero, Nat.succ_mul]
        exact Nat.le_trans ih (Nat.le_add_right _ _)
      | some f =>
        have h1 := hi.pages (List.mem_of_getElem? hg) m.opens.length
        rw [List.take_length] at h1
        have h2 : (pagesR m f).length ≤ 4000000000 := h1
        simp only [Option.toList, List.map_cons, List.map_nil, List.sum_cons, List.sum_nil, Nat.add_zero]
        omega
  have HSUM := Lib.hid hsum
  clear h hi hsum
  go_enter Try.func54, Try.ntmps54
  go_wp2_with fail
  go_loopw [3, 4] (fun n i wr => ∃ j : Nat, j ≤ m.files.length ∧ i = .int .i64 j ∧ n = .int .i64 (((m.files.take j).map fun f => (pagesR m f).length).sum : Nat) ∧ Below w.heap.size w wr) (fun _ i _ => m.files.length - (intOf i).toNat)
  case atStart => exact ⟨0, Nat.zero_le _, rfl, rfl, Below.refl _ _⟩
  case round =>
    obtain ⟨j, hj, rfl, rfl, hbr⟩ := hrel
    have HB := Lib.hid hbr
    have c0' : wr.cell? _ = some _ := cell_below hbr c0
    clear hbr
    by_cases hlt : j < m.files.length
    · have hP := pages_any (H.out.below HB.out) HS.out hlt
      have HP := Lib.hid hP
      have h1 := HSUM.out j
      have h2 := HSUM.out (j + 1)
      have h3 : ((m.files.take (j + 1)).map fun f => (pagesR m f).length).sum = ((m.files.take j).map fun f => (pagesR m f).length).sum + (pagesR m m.files[j]).length := by
        rw [List.take_add_one, List.getElem?_eq_getElem hlt, List.map_append, List.sum_append]
        simp
      have H3 := Lib.hid h3
      have h4 := HS.out.pages (List.getElem_mem hlt) m.opens.length
      rw [List.take_length] at h4
      have h5 : (pagesR m m.files[j]).length ≤ 4000000000 := h4
      generalize ((m.files.take j).map fun f => (pagesR m f).length).sum = n at h1 H3 ⊢
      obtain ⟨k, hk⟩ : ∃ k, (pagesR m m.files[j]).length = k := ⟨_, rfl⟩
      have HK := Lib.hid hk
      rw [hk] at h5
      clear hP h2 h3 h4 hk
      have hjl : ((j : Nat) : Int) < m.files.length := by omega
      go_wp2_with fail
      refine HP.out.mono ?_
      rintro e w2 ⟨v, rfl, hrow, hb⟩
      obtain ⟨A, c, hsh, -, -⟩ := hrow.shape
      rw [List.length_map, HK.out] at hsh
      subst hsh
      have HB2 := Lib.hid (HB.out.trans (hb.mono HB.out.size))
      clear hrow hb HP
      go_wp2_with fail
      go_roundw
      case rel =>
        refine ⟨j + 1, hlt, by go_num, ?_, HB2.out⟩
        rw [H3.out, HK.out]
        go_num
      case measure => simp [intOf]; omega
    · have hjl : ¬ ((j : Nat) : Int) < m.files.length := by omega
      have hje : m.files.take j = m.files := List.take_of_length_le (by omega)
      rw [hje]
      obtain ⟨u, hu⟩ : ∃ u, usedR m = u := ⟨_, rfl⟩
      rw [show ((m.files.map fun f => (pagesR m f).length).sum : Nat) = u from hu]
      have HU := Lib.hid hu
      clear hu hje
      go_wp2_with fail
      go_ret
      rw [HU.out]
      exact ⟨rfl, HB.out⟩
set_option maxHeartbeats 2000000 in
theorem rfail_any {p : Nat} {vf vo : Value} {vs : List Value} {m : RefT} {w : World} (h : RfAt w p vf vo vs m) (n : Int) (k : Nat) :
    Calls Try.prog 37 #[.pointer (some ⟨p, 0, none⟩), .int .i64 n, .int .u64 k] w fun e w' => e = .returned (.tuple #[]) ∧ RfP w p vf vo (failR m n k) w' := by
  obtain ⟨-, -, -, -, -, c5, c6, c7, c8⟩ := h.cell
  have f5 := h.free 5
  have f6 := h.free 6
  have f7 := h.free 7
  have H := Lib.hid h
  obtain ⟨dn, hdn⟩ : ∃ dn, m.down = dn := ⟨_, rfl⟩
  rw [hdn] at c8
  have HD := Lib.hid hdn
  clear h hdn
  cases dn
  · have hr : failR m n k = { m with set := true, inn := (max n 0).toNat, keep := k } := by unfold failR; rw [if_neg (by rw [HD.out]; simp)]
    have hmx : (if n < 0 then (0 : Int) else n) = ((max n 0).toNat : Nat) := by split <;> omega
    have HMX := Lib.hid hmx
    have HR := Lib.hid hr
    clear hmx hr
    by_cases hn : n < 0
    · have hm0 : max n 0 = 0 := by omega
      go_enter Try.func37, Try.ntmps37
      go_wp2_with fail
      go_end0
      rw [HR.out]
      have h1 := H.out.field (m' := { m with set := true }) 5 (.bool true) rfl rfl rfl
      have h2 := h1.field (m' := { m with set := true, inn := (max n 0).toNat }) 6 (.int .i64 0) (by rw [show (Value.int .i64 0) = .int .i64 ((max n 0).toNat : Nat) from by congr 1; omega]; rfl) rfl rfl
      have h3 := h2.field (m' := { m with set := true, inn := (max n 0).toNat, keep := k }) 7 (.int .u64 k) rfl rfl rfl
      have hfr := (((Fr.refl [p] w).put p 5 (.bool true) (.inl (by simp))).put p 6 (.int .i64 0) (.inl (by simp))).put p 7 (.int .u64 k) (.inl (by simp))
      exact ⟨rfl, RfP.here h3 hfr⟩
    · have hm0 : max n 0 = n := by omega
      go_enter Try.func37, Try.ntmps37
      go_wp2_with fail
      go_end0
      rw [HR.out]
      have h1 := H.out.field (m' := { m with set := true }) 5 (.bool true) rfl rfl rfl
      have h2 := h1.field (m' := { m with set := true, inn := (max n 0).toNat }) 6 (.int .i64 n) (by rw [show (Value.int .i64 n) = .int .i64 ((max n 0).toNat : Nat) from by congr 1; omega]; rfl) rfl rfl
      have h3 := h2.field (m' := { m with set := true, inn := (max n 0).toNat, keep := k }) 7 (.int .u64 k) rfl rfl rfl
      have hfr := (((Fr.refl [p] w).put p 5 (.bool true) (.inl (by simp))).put p 6 (.int .i64 n) (.inl (by simp))).put p 7 (.int .u64 k) (.inl (by simp))
      exact ⟨rfl, RfP.here h3 hfr⟩
  · have hr : failR m n k = m := by unfold failR; rw [if_pos HD.out]
    rw [hr]
    clear hr
    go_enter Try.func37, Try.ntmps37
    go_wp2_with fail
    go_end0
    exact ⟨rfl, RfP.here H.out (Fr.refl _ _)⟩
end Go.Proofs.Ytikbphafpmdpeaa

set_option linter.all false
namespace Go.Proofs.Ytikbphafpmdpeaa
open Go.RowKit

set_option maxRecDepth 100000 in
theorem page_bytes (w : World) (q : PageT) : ∃ c w1, (convert 9 23 (pgS q)).run Try.prog w = .ok (.slice (some ⟨w.heap.size, 0, none⟩) 256 c) w1 ∧ Cells w1 (some ⟨w.heap.size, 0, none⟩) (bv q.b) ∧ Below w.heap.size w w1 := by
  have h := Lib.run_convert_string_bytes (P := Try.prog) w 9 23 5 ⟨q.b.toArray⟩ (u := .string) Try.underlying9 Try.underlying23 Try.underlying5
  have hsz : (⟨q.b.toArray⟩ : ByteArray).size = 256 := by show q.b.toArray.size = 256; simp [q.len]
  rw [hsz] at h
  refine ⟨grownCap w 256 0 5, Lib.bytesWorld w 5 ⟨q.b.toArray⟩, h, ?_, ?_⟩
  · intro _
    refine ⟨_, rfl, fun j u hj => ?_⟩
    have hl : j < q.b.length := by
      have := (List.getElem?_eq_some_iff.1 hj).1
      rwa [bv_length] at this
    rw [bv_get _ _ hl] at hj
    injection hj with hj
    subst hj
    have h1 := Lib.bytesWorld_cell w 5 ⟨q.b.toArray⟩ j (by rw [hsz, ← q.len]; exact hl)
    rw [Go.WideShapes.add_plain, Nat.zero_add, h1]
    congr 3
    show (((q.b.toArray).toList).getD j 0).toNat = _
    simp [List.getD, hl]
  · refine ⟨?_, ?_, ?_, ?_, ?_⟩
    · simp [Lib.bytesWorld, World.freeze, World.alloc, World.drew, -World.alloc_eq, -World.drew_eq]
    · simp [Lib.bytesWorld, World.freeze, World.alloc, World.drew, -World.alloc_eq, -World.drew_eq]
    · simp [Lib.bytesWorld, World.freeze, World.alloc, World.drew, -World.alloc_eq, -World.drew_eq]
    · rw [Lib.bytesWorld_size]; omega
    · intro i hi; exact Lib.bytesWorld_at_old w _ _ i hi
def RReadV (w : World) (o : Option PageT) (v : Value) (w' : World) : Prop :=
  Below w.heap.size w w' ∧ match o with
  | none => v = .slice none 0 0
  | some q => ∃ g c, v = .slice (some ⟨g, 0, none⟩) 256 c ∧ Cells w' (some ⟨g, 0, none⟩) (bv q.b)
section
variable {p : Nat} {vf vo : Value} {vs : List Value} {m : RefT} {w : World}
set_option maxRecDepth 100000 in
set_option maxHeartbeats 2000000 in
theorem rread_any (h : RfAt w p vf vo vs m) (hi : RInv m) (hc : m.count ≤ 4000000000) (name : ByteArray) (pg : Int) :
    Calls Try.prog 35 #[.pointer (some ⟨p, 0, none⟩), .string name, .int .i64 pg] w fun e w' => ∃ v, e = .returned (.tuple #[v, .int .i64 (readR m name pg).1]) ∧ RReadV w (readR m name pg).2 v w' := by
  have c8 := h.cell.2.2.2.2.2.2.2.2
  have H := Lib.hid h
  have hF := rfind_any name h (Nat.le_trans hi.files (by decide))
  have HSM := Lib.hid (hi.small hc)
  obtain ⟨dn, hdn⟩ : ∃ dn, m.down = dn := ⟨_, rfl⟩
  rw [hdn] at c8
  have HD := Lib.hid hdn
  clear h hi hdn
  cases dn
  · cases hf : findR m.files name with
    | none =>
      rw [findI_none hf] at hF
      have HF := Lib.hid hF
      have hr : readR m name pg = (91, none) := by unfold readR; rw [if_neg (by rw [HD.out]; simp), hf]
      rw [hr]
      clear hF hf hr
      go_enter Try.func35, Try.ntmps35
      go_wp2_with fail
      refine HF.out.mono ?_
      rintro e w1 ⟨rfl, rfl⟩
      go_wp2_with fail
      go_ret2
      exact ⟨_, rfl, Below.refl _ _, rfl⟩
    | some i =>
      rw [findI_some hf] at hF
      have HF := Lib.hid hF
      obtain ⟨f, hfi, -, hlt⟩ := findR_some hf
      have hfe : m.files[i] = f := (List.getElem?_eq_some_iff.1 hfi).2
      have hr : readR m name pg = (if pg < 0 then (92, none) else match (pagesR m f)[pg.toNat]? with | none => (92, none) | some p => (0, some p) : Int × Option PageT) := by unfold readR; rw [if_neg (by rw [HD.out]; simp), hf]; simp only; rw [hfi]; rfl
      have hpl : (pagesR m f).length ≤ 4000000000 := by
        have := HSM.out.pages (hfe ▸ List.getElem_mem hlt) m.opens.length
        rwa [List.take_length] at this
      have HP := Lib.hid (hfe ▸ pages_any H.out HSM.out hlt)
      have hi0 : ¬ ((i : Int) < 0) := by omega
      have HR := Lib.hid hr
      obtain ⟨l, hl⟩ : ∃ l, pagesR m f = l := ⟨_, rfl⟩
      rw [hl] at HP HR hpl
      clear hF hf hr hfi hfe hl
      by_cases hp0 : pg < 0
      · have hr2 := HR.out
        rw [if_pos hp0] at hr2
        rw [hr2]
        clear hr2
        go_enter Try.func35, Try.ntmps35
        go_wp2_with fail
        refine HF.out.mono ?_
        rintro e w1 ⟨rfl, rfl⟩
        go_wp2_with fail
        refine HP.out.mono ?_
        rintro e w2 ⟨v, rfl, hrow, hb⟩
        obtain ⟨A, c, hsh, -, -⟩ := hrow.shape
        rw [List.length_map] at hsh
        subst hsh
        have HB := Lib.hid hb
        clear hrow hb
        go_wp2_with fail
        go_ret2
        exact ⟨_, rfl, HB.out, rfl⟩
      · obtain ⟨n, rfl⟩ : ∃ n : Nat, pg = n := ⟨pg.toNat, by omega⟩
        have hr2 := HR.out
        rw [if_neg hp0, Int.toNat_natCast] at hr2
        by_cases hn : n < l.length
        · rw [List.getElem?_eq_getElem hn] at hr2
          rw [hr2]
          have hnl : ¬ ((n : Int) ≥ l.length) := by omega
          clear hr2
          go_enter Try.func35, Try.ntmps35
          go_wp2_with fail
          refine HF.out.mono ?_
          rintro e w1 ⟨rfl, rfl⟩
          go_wp2_with fail
          refine HP.out.mono ?_
          rintro e w2 ⟨v, rfl, hrow, hb⟩
          obtain ⟨A, c, hsh, -, hcl⟩ := hrow.shape
          rw [List.length_map] at hsh
          subst hsh
          have hcn : (l.map pgS)[n]? = some (pgS l[n]) := by simp [hn]
          obtain ⟨ad, rfl, hat⟩ := hcl (by rw [List.length_map]; omega)
          have c1 := hat n _ hcn
          obtain ⟨c9, w3, hcv, hcb, hb3⟩ := page_bytes w2 l[n]
          obtain ⟨ts, hts⟩ : ∃ ts, pgS l[n] = .string ts := ⟨_, rfl⟩
          rw [hts] at c1 hcv
          have HB := Lib.hid (hb.trans (hb3.mono hb.size))
          have HCB := Lib.hid hcb
          clear hrow hb hcl hat hcn hts hcb hb3
          go_wp2_with fail
          go_ret2
          exact ⟨_, rfl, HB.out, _, _, rfl, HCB.out⟩
        · rw [List.getElem?_eq_none (by omega)] at hr2
          rw [hr2]
          have hnl : ((n : Int) ≥ l.length) := by omega
          clear hr2
          go_enter Try.func35, Try.ntmps35
          go_wp2_with fail
          refine HF.out.mono ?_
          rintro e w1 ⟨rfl, rfl⟩
          go_wp2_with fail
          refine HP.out.mono ?_
          rintro e w2 ⟨v, rfl, hrow, hb⟩
          obtain ⟨A, c, hsh, -, -⟩ := hrow.shape
          rw [List.length_map] at hsh
          subst hsh
          have HB := Lib.hid hb
          clear hrow hb
          go_wp2_with fail
          go_ret2
          exact ⟨_, rfl, HB.out, rfl⟩
  · have hr : readR m name pg = (7, none) := by unfold readR; rw [if_pos HD.out]
    rw [hr]
    clear hr
    go_enter Try.func35, Try.ntmps35
    go_wp2_with fail
    go_ret2
    exact ⟨_, rfl, Below.refl _ _, rfl⟩
end
/-- A new disk of the document's. -/
def RNew (w : World) (m : RefT) (e : Ending) (w' : World) : Prop := ∃ q vf vo vs, e = .returned (.pointer (some ⟨q, 0, none⟩)) ∧ RfAt w' q vf vo vs m ∧ (∀ i ∈ fpR q vf vo, w.heap.size ≤ i) ∧ Below w.heap.size w w'
set_option maxRecDepth 100000 in
theorem rnew_any (quota : Int) (w : World) : Calls Try.prog 9 #[.int .i64 quota] w (RNew w (newR quota)) := by
  have hq : ((newR quota).quota : Int) = min (max quota 0) 65536 := by
    show ((min (max quota 0).toNat 65536 : Nat) : Int) = _
    omega
  have hfin : ∀ q : Int, q = min (max quota 0) 65536 → RNew w (newR quota) (.returned (.pointer (some ⟨w.heap.size, 0, none⟩))) (w.alloc (.cells #[.slice none 0 0, .slice none 0 0, .int .i64 0, .int .i64 q, .int .i64 0, .bool false, .int .i64 0, .int .u64 0, .bool false] 63)) := by
    rintro q rfl
    refine ⟨w.heap.size, .slice none 0 0, .slice none 0 0, [], rfl, ⟨?_, World.ownsRow_nil _ _ _ _, World.ownsRow_nil _ _ _ _, rfl⟩, fun i hi => ?_, (Below.refl _ _).alloc (Nat.le_refl _) _⟩
    · rw [← hq]; exact Go.heap_alloc_new w _
    · simp [fpR, Value.ownBlock] at hi
      omega
  have HF := Lib.hid hfin
  clear hq hfin
  by_cases h1 : quota < 0
  · go_enter Try.func9, Try.ntmps9
    go_wp2_with fail
    go_ret
    exact HF.out _ (by omega)
  · by_cases h2 : quota ≤ 65536
    · go_enter Try.func9, Try.ntmps9
      go_wp2_with fail
      go_ret
      exact HF.out _ (by omega)
    · go_enter Try.func9, Try.ntmps9
      go_wp2_with fail
      go_ret
      exact HF.out _ (by omega)
end Go.Proofs.Ytikbphafpmdpeaa

set_option linter.all false
namespace Go.Proofs.Ytikbphafpmdpeaa
open Go.RowKit

/-- A row made before stays where another is made behind it. -/
theorem copy_keeps {w1 w2 w3 : World} {E E' : TypeId} {v2 v3 : Value} {n n' : Nat} {xs ys : List Value} {k : Nat} (h : w2.ownsRow w1.heap.size E k v2 n xs) (hg : w2.grownBy w3 (Value.slice none 0 0).ownBlock)
    (_ : v3.ownBlock = (Value.slice none 0 0).ownBlock ∨ v3.ownBlock = some w2.heap.size) (_ : Below w1.heap.size w1 w2) (_ : w3.ownsRow w1.heap.size E' k v3 n' ys) : w3.ownsRow w1.heap.size E k v2 n xs :=
  ownsRow_block h fun g hgb => hg.block g (World.ownsRow.lt h g hgb).2 (by simp [Value.ownBlock])
theorem copy_done {p q : Nat} {vf vo v2 v3 : Value} {vs : List Value} {m : RefT} {w w1 w3 : World} (h : RfAt w p vf vo vs m) (hb : Below w.heap.size w w1) (hk : w1.heap[w.heap.size]? = some (.cells (cellsR vf vo m) 63)) (hsz : w.heap.size < w1.heap.size)
    (hb3 : Below w1.heap.size w1 w3) (h2 : w3.ownsRow w1.heap.size 96 3 v2 m.files.length vs) (h3 : w3.ownsRow w1.heap.size 99 3 v3 m.opens.length (m.opens.flatMap wrR)) (hq : q = w.heap.size := by rfl) :
    RNew w m (.returned (.pointer (some ⟨q, 0, none⟩))) ((w3.setCell ⟨q, 0, none⟩ v2).setCell ⟨q, 1, none⟩ v3) := by
  subst hq
  have h1 := h.below hb
  have h4 : RfAt w1 w.heap.size vf vo vs m := ⟨hk, h1.of, h1.oo, h1.fv⟩
  have h5 := h4.set_files (w1 := w3) (Fr.below hb3) (own_to h2 (Nat.zero_le _)) (h1.fv.kept (.below hb3))
  have ho : (w3.setCell ⟨w.heap.size, 0, none⟩ v2).ownsRow w1.heap.size 99 3 v3 m.opens.length (m.opens.flatMap wrR) := ownsRow_block h3 fun g hg => Below.heap_setCell w3 ⟨w.heap.size, 0, none⟩ v2 g fun e => by
    have h6 := (World.ownsRow.lt h3 g hg).1
    have e2 : g = w.heap.size := e
    omega
  have h6 := h5.set_opens (Fr.refl _ _) (own_to ho (Nat.zero_le _))
  refine ⟨w.heap.size, v2, v3, vs, rfl, h6, fun i hi => ?_, ?_⟩
  · simp only [fpR, List.mem_cons, List.mem_append] at hi
    rcases hi with rfl | hi | hi
    · exact Nat.le_refl _
    · have := (World.ownsRow.lt h2 i (by simpa using hi)).1
      omega
    · have := (World.ownsRow.lt h3 i (by simpa using hi)).1
      omega
  · have h7 := hb.trans (hb3.mono hb.size)
    exact (h7.setCell (show w.heap.size ≤ (⟨w.heap.size, 0, none⟩ : Addr).block from Nat.le_refl _) v2).setCell (show w.heap.size ≤ (⟨w.heap.size, 1, none⟩ : Addr).block from Nat.le_refl _) v3
set_option maxRecDepth 100000 in
set_option maxHeartbeats 4000000 in
theorem rcopy_any {p : Nat} {vf vo : Value} {vs : List Value} {m : RefT} {w : World} (h : RfAt w p vf vo vs m) (hi : Small m) :
    Calls Try.prog 24 #[.pointer (some ⟨p, 0, none⟩)] w (RNew w m) := by
  obtain ⟨c0, c1, c2, c3, c4, c5, c6, c7, c8⟩ := h.cell
  have hlo := hi.opens
  have hlf := hi.files
  obtain ⟨Af, cf, rfl, -, hcf⟩ := h.files
  obtain ⟨Ao, co, rfl, -, hco⟩ := h.opens
  have H := Lib.hid h
  have HC := Lib.hid hco
  obtain ⟨a2, h2⟩ : ∃ a2 : Int, (m.next : Int) = a2 := ⟨_, rfl⟩
  obtain ⟨a3, h3⟩ : ∃ a3 : Int, (m.quota : Int) = a3 := ⟨_, rfl⟩
  obtain ⟨a4, h4⟩ : ∃ a4 : Int, (m.count : Int) = a4 := ⟨_, rfl⟩
  obtain ⟨a5, h5⟩ : ∃ a5, m.set = a5 := ⟨_, rfl⟩
  obtain ⟨a6, h6⟩ : ∃ a6 : Int, (m.inn : Int) = a6 := ⟨_, rfl⟩
  obtain ⟨a7, h7⟩ : ∃ a7 : Int, (m.keep : Int) = a7 := ⟨_, rfl⟩
  obtain ⟨a8, h8⟩ : ∃ a8, m.down = a8 := ⟨_, rfl⟩
  rw [h2] at c2
  rw [h3] at c3
  rw [h4] at c4
  rw [h5] at c5
  rw [h6] at c6
  rw [h7] at c7
  rw [h8] at c8
  have HM := Lib.hid (show cellsR (.slice Af m.files.length cf) (.slice Ao m.opens.length co) m = #[.slice Af m.files.length cf, .slice Ao m.opens.length co, .int .i64 a2, .int .i64 a3, .int .i64 a4, .bool a5, .int .i64 a6, .int .u64 a7, .bool a8] by rw [← h2, ← h3, ← h4, ← h5, ← h6, ← h7, ← h8]; rfl)
  have HLF := Lib.hid h.fv.len
  have HOF := Lib.hid h.fv.one
  have HCF := Lib.hid hcf
  have hba : Below w.heap.size w (w.alloc (.cells #[.slice Af m.files.length cf, .slice Ao m.opens.length co, .int .i64 a2, .int .i64 a3, .int .i64 a4, .bool a5, .int .i64 a6, .int .u64 a7, .bool a8] 63)) := (Below.refl _ _).alloc (Nat.le_refl _) _
  have k0 := cell_below hba c0
  have kb := Go.heap_alloc_new w (.cells #[.slice Af m.files.length cf, .slice Ao m.opens.length co, .int .i64 a2, .int .i64 a3, .int .i64 a4, .bool a5, .int .i64 a6, .int .u64 a7, .bool a8] 63)
  have hsz : w.heap.size < (w.alloc (.cells #[.slice Af m.files.length cf, .slice Ao m.opens.length co, .int .i64 a2, .int .i64 a3, .int .i64 a4, .bool a5, .int .i64 a6, .int .u64 a7, .bool a8] 63)).heap.size := by simp
  have HBA := Lib.hid hba
  have C1 := Lib.hid c1
  have HN1 := Lib.hid (show (0 + m.files.length) * 48 ≤ 140737488355328 by omega)
  have HN2 := Lib.hid (show 0 + m.files.length ≤ 140737488355328 by omega)
  have HN3 := Lib.hid (show (0 + m.opens.length) * 32 ≤ 140737488355328 by omega)
  have HN4 := Lib.hid (show 0 + m.opens.length ≤ 140737488355328 by omega)
  have HLO := Lib.hid (wrs_len m.opens)
  have HOO := Lib.hid (wrs_one m.opens)
  clear h hi hcf hco h2 h3 h4 h5 h6 h7 h8 hba
  have tok1 : True := trivial
  have tok2 : True := trivial
  go_enter Try.func24, Try.ntmps24
  go_wp2_with (first
    | (at_builtin; have _t := tok1; generalize w.alloc (.cells #[.slice Af m.files.length cf, .slice Ao m.opens.length co, .int .i64 a2, .int .i64 a3, .int .i64 a4, .bool a5, .int .i64 a6, .int .u64 a7, .bool a8] 63) = w1 at k0 kb hsz HBA ⊢; have KB := Lib.hid kb; have HSZ := Lib.hid hsz; clear kb hsz k0; go_must (refine wpList_appk slRFile rfl _ _ rfl w1.heap.size _ 0 [] rfl (World.ownsRow_nil w1 w1.heap.size 96 3) _ _ _ vs rfl HLF.out (Cells.below HCF.out HBA.out) HOF.out HN1.out HN2.out (Nat.le_refl _) ?_); intro v2 w2 hown2 hg2 hb2 hat2; rw [Nat.zero_add, List.nil_append] at hown2; obtain ⟨A2, d2, hv2, -, -⟩ := own_shape hown2; subst hv2; have HO2 := Lib.hid hown2; have HB2 := Lib.hid hb2; have k1 := cell_below (HBA.out.trans (hb2.mono HBA.out.size)) C1.out; clear tok1 _t hown2 hg2 hb2 hat2)
    | (at_builtin; have _t := tok2; go_must (refine wpList_appk slRWr rfl _ _ rfl w1.heap.size _ 0 [] rfl (World.ownsRow_nil w2 w1.heap.size 99 3) _ _ _ (m.opens.flatMap wrR) rfl HLO.out (Cells.below HC.out (HBA.out.trans (HB2.out.mono HBA.out.size))) HOO.out HN3.out HN4.out HB2.out.size ?_); intro v3 w3 hown3 hg3 hb3 hat3; rw [Nat.zero_add, List.nil_append] at hown3; obtain ⟨A3, d3, hv3, -, -⟩ := own_shape hown3; subst hv3; have HO3 := Lib.hid hown3; have HB3 := Lib.hid (HB2.out.trans hb3); have HO2 := Lib.hid (copy_keeps HO2.out hg3 hat3 HB2.out hown3); have q0 := cell_below HB3.out (cell_of (j := 0) KB.out rfl); have q1 := cell_below HB3.out (cell_of (j := 1) KB.out rfl); have q2 := free_of ((HB3.out.block _ HSZ.out).trans KB.out) 0; have q3 := free_of ((HB3.out.block _ HSZ.out).trans KB.out) 1; clear tok2 _t hown3 hg3 hb3 hat3 k1))
  go_ret
  exact copy_done H.out HBA.out (by rw [HM.out]; exact KB.out) HSZ.out HB3.out HO2.out HO3.out
end Go.Proofs.Ytikbphafpmdpeaa
