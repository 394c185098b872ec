/- The document's Mint. · The document's Mint, whole. -/
import Derived.Test.YtmlcojhanimnpaaQ1
namespace Go.Proofs.Ytmlcojhanimnpaa
open Go.RowKit

theorem slRAcc : SlTyK Try.prog 51 94 (.agg #[.string ⟨#[]⟩, .int .i64 0]) 2 24 := ⟨Try.underlying51, by kernel_rfl, rfl, by decide⟩
theorem slRChan : SlTyK Try.prog 52 95 (.agg #[.string ⟨#[]⟩, .string ⟨#[]⟩, .string ⟨#[]⟩, .int .i64 0, .int .i64 0, .int .i64 0]) 6 72 := ⟨Try.underlying52, by kernel_rfl, rfl, by decide⟩
theorem slRHold : SlTyK Try.prog 53 97 (.agg #[.int .i64 0, .slice none 0 0]) 2 32 := ⟨Try.underlying53, by kernel_rfl, rfl, by decide⟩
theorem setField_cells {w : World} {p : Nat} {v0 v1 v2 v3 : Value} {T : TypeId} (h : w.heap[p]? = some (.cells #[v0, v1, v2, v3] T)) (j : Nat) (u : Value) : (w.setCell ⟨p, j, none⟩ u).heap[p]? = some (.cells (#[v0, v1, v2, v3].setIfInBounds j u) T) := setCell_cells h j u
/-- A new row of accounts, of channels, in its field. -/
theorem RAt.set_accs {w w3 : World} {p : Nat} {va vc vh v3 : Value} {vs : List Value} {A A' : List (ByteArray × Int)} {C : List Chan} {H : List HoldR} {n : Int} (h : RAt w p va vc vh vs A C H n) (hb : Below w.heap.size w w3) (ho : w3.ownsRow w.heap.size 94 2 v3 A'.length (A'.flatMap accC)) :
    RAt (w3.setCell ⟨p, 0, none⟩ v3) p v3 vc vh vs A' C H n ∧ Fr (fpR p va vc vh) w (w3.setCell ⟨p, 0, none⟩ v3) ∧ ∀ i ∈ fpR p v3 vc vh, i ∈ fpR p va vc vh ∨ w.heap.size ≤ i := by
  have h3 := h.below hb
  have hne : ∀ i, i ≠ p → (w3.setCell ⟨p, 0, none⟩ v3).heap[i]? = w3.heap[i]? := fun i hi => Below.heap_setCell w3 ⟨p, 0, none⟩ v3 i hi
  have hk : ∀ (i : Nat) (cs : Array Value) (T : TypeId), w3.heap[i]? = some (.cells cs T) → T ≠ 55 → i ≠ p := fun i cs T h1 h2 e => by
    subst e
    rw [h3.blk] at h1
    injection h1 with h1
    injection h1 with h1 h4
    exact h2 h4.symm
  refine ⟨⟨setField_cells h3.blk 0 v3, ?_, ?_, ?_, ?_⟩, ⟨hb.os, hb.tape, hb.output, by simpa [World.setCell] using hb.size, fun i hi hn => (hne i fun e => hn (by subst e; simp [fpR])).trans (hb.block i hi)⟩, ?_⟩
  · exact ownsRow_block (own_zero ho) fun g hg => by obtain ⟨c, hc⟩ := row_kind ho hg; exact hne g (hk g _ _ hc (by decide))
  · exact ownsRow_block h3.oc fun g hg => by obtain ⟨c, hc⟩ := row_kind h3.oc hg; exact hne g (hk g _ _ hc (by decide))
  · exact ownsRow_block h3.oh fun g hg => by obtain ⟨c, hc⟩ := row_kind h3.oh hg; exact hne g (hk g _ _ hc (by decide))
  · exact h3.hv.kept fun g cur hc => hne g (hk g _ _ hc (by decide))
  · intro i hi
    simp only [fpR, List.mem_cons, List.mem_append] at hi ⊢
    rcases hi with rfl | hi | hi | hi
    · exact .inl (.inl rfl)
    · exact .inr (World.ownsRow.lt ho i (by simpa using hi)).1
    · exact .inl (.inr (.inr (.inl hi)))
    · exact .inl (.inr (.inr (.inr hi)))
theorem RAt.set_chs {w w3 : World} {p : Nat} {va vc vh v3 : Value} {vs : List Value} {A : List (ByteArray × Int)} {C C' : List Chan} {H : List HoldR} {n : Int} (h : RAt w p va vc vh vs A C H n) (hb : Below w.heap.size w w3) (ho : w3.ownsRow w.heap.size 95 6 v3 C'.length (C'.flatMap chC)) :
    RAt (w3.setCell ⟨p, 1, none⟩ v3) p va v3 vh vs A C' H n ∧ Fr (fpR p va vc vh) w (w3.setCell ⟨p, 1, none⟩ v3) ∧ ∀ i ∈ fpR p va v3 vh, i ∈ fpR p va vc vh ∨ w.heap.size ≤ i := by
  have h3 := h.below hb
  have hne : ∀ i, i ≠ p → (w3.setCell ⟨p, 1, none⟩ v3).heap[i]? = w3.heap[i]? := fun i hi => Below.heap_setCell w3 ⟨p, 1, none⟩ v3 i hi
  have hk : ∀ (i : Nat) (cs : Array Value) (T : TypeId), w3.heap[i]? = some (.cells cs T) → T ≠ 55 → i ≠ p := fun i cs T h1 h2 e => by
    subst e
    rw [h3.blk] at h1
    injection h1 with h1
    injection h1 with h1 h4
    exact h2 h4.symm
  refine ⟨⟨setField_cells h3.blk 1 v3, ?_, ?_, ?_, ?_⟩, ⟨hb.os, hb.tape, hb.output, by simpa [World.setCell] using hb.size, fun i hi hn => (hne i fun e => hn (by subst e; simp [fpR])).trans (hb.block i hi)⟩, ?_⟩
  · exact ownsRow_block h3.oa fun g hg => by obtain ⟨c, hc⟩ := row_kind h3.oa hg; exact hne g (hk g _ _ hc (by decide))
  · exact ownsRow_block (own_zero ho) fun g hg => by obtain ⟨c, hc⟩ := row_kind ho hg; exact hne g (hk g _ _ hc (by decide))
  · exact ownsRow_block h3.oh fun g hg => by obtain ⟨c, hc⟩ := row_kind h3.oh hg; exact hne g (hk g _ _ hc (by decide))
  · exact h3.hv.kept fun g cur hc => hne g (hk g _ _ hc (by decide))
  · intro i hi
    simp only [fpR, List.mem_cons, List.mem_append] at hi ⊢
    rcases hi with rfl | hi | hi | hi
    · exact .inl (.inl rfl)
    · exact .inl (.inr (.inl hi))
    · exact .inr (World.ownsRow.lt ho i (by simpa using hi)).1
    · exact .inl (.inr (.inr (.inr hi)))
/-- Parts of a row that is read. -/
theorem flat_take {w : World} {ad : Addr} {α : Type} (f : α → List Value) {l : List α} (h : Cells w (some ad) (l.flatMap f)) (k : Nat) : Cells w (some ad) ((l.take k).flatMap f) := fun hn => by
  have e : l.flatMap f = (l.take k).flatMap f ++ (l.drop k).flatMap f := by rw [← List.flatMap_append, List.take_append_drop]
  obtain ⟨ad', he, hc⟩ := h (by rw [e, List.length_append]; omega)
  exact ⟨ad', he, fun j u hj => hc j u (by rw [e, List.getElem?_append_left (List.getElem?_eq_some_iff.1 hj).1]; exact hj)⟩
theorem flat_len {α : Type} (f : α → List Value) (m : Nat) (hf : ∀ x, (f x).length = m) : ∀ l : List α, (l.flatMap f).length = l.length * m
  | [] => by simp
  | x :: r => by rw [List.flatMap_cons, List.length_append, hf, flat_len f m hf r, List.length_cons, Nat.add_mul]; omega
theorem flat_drop {w : World} {ad : Addr} {α : Type} (f : α → List Value) (m : Nat) (hf : ∀ x, (f x).length = m) {l : List α} (h : Cells w (some ad) (l.flatMap f)) (k : Nat) (hk : k ≤ l.length) : Cells w (some (ad.add (k * m))) ((l.drop k).flatMap f) := fun hn => by
  have e : l.flatMap f = (l.take k).flatMap f ++ (l.drop k).flatMap f := by rw [← List.flatMap_append, List.take_append_drop]
  have el : ((l.take k).flatMap f).length = k * m := by rw [flat_len f m hf, List.length_take, Nat.min_eq_left hk]
  obtain ⟨ad', he, hc⟩ := h (by rw [e, List.length_append]; omega)
  injection he with he
  subst he
  refine ⟨_, rfl, fun j u hj => ?_⟩
  rw [Go.Deep.add_add]
  exact hc _ u (by rw [e, List.getElem?_append_right (by rw [el]; omega), el, Nat.add_sub_cancel_left]; exact hj)
theorem flat_one {α : Type} (f : α → List Value) (hf : ∀ x, ∀ u ∈ f x, u.oneCell' = true) (l : List α) : ∀ u ∈ l.flatMap f, u.oneCell' = true := fun u hu => by
  obtain ⟨x, -, hx⟩ := List.mem_flatMap.1 hu
  exact hf x u hx
theorem accC_one (p : ByteArray × Int) : ∀ u ∈ accC p, u.oneCell' = true := by
  intro u hu
  simp only [accC, List.mem_cons, List.not_mem_nil, or_false] at hu
  rcases hu with rfl | rfl <;> rfl
theorem chC_one (c : Chan) : ∀ u ∈ chC c, u.oneCell' = true := by
  intro u hu
  simp only [chC, List.mem_cons, List.not_mem_nil, or_false] at hu
  rcases hu with rfl | rfl | rfl | rfl | rfl | rfl <;> rfl
set_option maxRecDepth 100000 in
set_option maxHeartbeats 8000000 in
/-- Mint of a first account. -/
theorem rmint_new0 (p : Nat) (vc vh : Value) (vs : List Value) (s : Led) (name : ByteArray) (n : Int) (w : World) (hs : Inv s) (hnm : name.size ≤ reachBytes) (h : RLed w p (.slice none 0 0) vc vh vs s) (hnil : accs s = []) (h1 : namedB name = true) (h2 : okCoin n = true) (h3 : okCoin (total s + n) = true) (h4 : mget s.coins name = none) (h5 : s.coins.length < 64) :
    Calls Try.prog 47 #[.pointer (some ⟨p, 0, none⟩), .string name, .int .i64 n] w (ROp w p (.slice none 0 0) vc vh 0 { s with coins := mset s.coins name n }) := by
  obtain ⟨e0, -, -, -⟩ := RAt.cell h
  have H := Lib.hid h
  have HS := Lib.hid hs
  have hal : (accs s).length < 64 := by rw [accs_len]; exact h5
  have HF := Lib.hid (rfind_none hs h h4)
  have HTOT := Lib.hid (rtot_any p _ _ _ vs s w hs h)
  have htb := total_bounds hs
  have hon := okCoin_iff.1 h2
  unfold maxCoin at hon
  obtain ⟨n0, n1⟩ := hon
  obtain ⟨t0, t1⟩ := htb
  obtain ⟨T, hT⟩ : ∃ T, total s = T := ⟨_, rfl⟩
  rw [hT] at h3 t0 t1
  have HT := Lib.hid hT
  have n1' : ¬ 2100000000000000 < n := by omega
  have t1' : ¬ 2100000000000000 < T := by omega
  have HN := Lib.hid h1
  have HO := Lib.hid h2
  have HO2 := Lib.hid h3
  have hne := acc_noplace h4
  have HNE := Lib.hid hne
  have H4 := Lib.hid h4
  have HNIL := Lib.hid hnil
  have HHAL := Lib.hid hal
  clear hal hnil
  have hkey : ∀ j (hj : j < (accs s).length) (hj2 : j < (skeys s.coins).length), (accs s)[j].1 = (skeys s.coins)[j] := fun j hj hj2 => by rw [accs_at s hj hj2]
  have HKEY := Lib.hid hkey
  have hfin : ∀ k, k ≤ (accs s).length → (∀ j (hj : j < (accs s).length), k ≤ j → bLt name (accs s)[j].1) → (∀ j (hj : j < (accs s).length), j < k → bLt (accs s)[j].1 name) → ∀ w3 v3, w3.ownsRow w.heap.size 94 2 v3 (0 + k + 1 + ((accs s).length - k)) (([] ++ ((accs s).take k).flatMap accC ++ [Value.string name, Value.int .i64 n]) ++ ((accs s).drop k).flatMap accC) → Below w.heap.size w w3 →
      ROp w p (.slice none 0 0) vc vh 0 { s with coins := mset s.coins name n } (.returned (.int .i64 0)) (w3.setCell ⟨p, 0, none⟩ v3) := by
    intro k hk hup hlow w3 v3 ho hb
    have hins : accs { s with coins := mset s.coins name n } = (accs s).take k ++ (name, n) :: (accs s).drop k := by
      refine told_ins (g := fun k v => (k, v)) (d := 0) H4.out (fun j hj hjk => ?_) (fun j hj hjk => ?_)
      · have hj2 : j < (accs s).length := by rw [accs_len, ← skeys_len]; exact hj
        rw [← HKEY.out j hj2 hj]
        exact hlow j hj2 hjk
      · have hj2 : j < (accs s).length := by rw [accs_len, ← skeys_len]; exact hj
        rw [← HKEY.out j hj2 hj]
        exact hup j hj2 hjk
    have hl : 0 + k + 1 + ((accs s).length - k) = (accs { s with coins := mset s.coins name n }).length := by rw [hins]; simp; omega
    have hx : ([] ++ ((accs s).take k).flatMap accC ++ [Value.string name, Value.int .i64 n]) ++ ((accs s).drop k).flatMap accC = (accs { s with coins := mset s.coins name n }).flatMap accC := by
      rw [hins, List.flatMap_append, List.flatMap_cons, List.nil_append, List.append_assoc]; rfl
    rw [hl, hx] at ho
    obtain ⟨g1, g2, g3⟩ := RAt.set_accs H.out hb ho
    exact ⟨rfl, _, _, _, _, g1, g2, g3⟩
  have HFN := Lib.hid hfin
  clear h hs h1 h2 h3 h4 h5 hT n1 t1 hne hkey hfin
  go_enter Try.func47, Try.ntmps47
  go_wp2_with fail
  refine HF.out.mono ?_
  rintro e w1 ⟨rfl, rfl⟩
  go_wp2_with fail
  refine (rnamed_any name hnm _).mono ?_
  rw [HN.out]
  rintro e w1 ⟨rfl, rfl⟩
  go_wp2_with fail
  refine (rcoins_any n _).mono ?_
  rw [HO.out]
  rintro e w1 ⟨rfl, rfl⟩
  go_wp2_with fail
  refine HTOT.out.mono ?_
  rw [HT.out]
  rintro e w1 ⟨rfl, rfl⟩
  go_wp2_with fail
  refine (rcoins_any (T + n) _).mono ?_
  rw [HO2.out]
  rintro e w1 ⟨rfl, rfl⟩
  go_wp2_with fail
  go_loop [8] (fun i => i = .int .i64 0) (fun i => (intOf i).toNat)
  case atStart => exact rfl
  case round =>
    subst hrel
    have hfw := HFN.out 0 (Nat.zero_le _) (fun j hj _ => by rw [HNIL.out] at hj; cases hj) (fun j _ h => absurd h (Nat.not_lt_zero j))
    have hl0 : (accs s).length = 0 := by rw [HNIL.out]; rfl
    rw [hl0] at hfw
    have HFIN := Lib.hid (fun (_ : True) => hfw)
    clear hfw
    have HTK := Lib.hid (show Cells w none (((accs s).take 0).flatMap accC) from Cells.nil _ _)
    have HDK := Lib.hid (fun (w' : World) (_ : Below w.heap.size w w') => (show Cells w' none (((accs s).drop 0).flatMap accC) by rw [HNIL.out]; exact Cells.nil _ _))
    have HDL := Lib.hid (show (((accs s).drop 0).flatMap accC).length = 0 * 2 by rw [HNIL.out]; rfl)
    have HTL := Lib.hid (show (((accs s).take 0).flatMap accC).length = 0 * 2 by rw [HNIL.out]; rfl)
    clear hl0
    have HN1 := Lib.hid (show (0 + 0) * 24 ≤ 140737488355328 by omega)
    have HN2 := Lib.hid (show 0 + 0 ≤ 140737488355328 by omega)
    have HN3 := Lib.hid (show (0 + 0 + 1) * 24 ≤ 140737488355328 by omega)
    have HN4 := Lib.hid (show 0 + 0 + 1 ≤ 140737488355328 by omega)
    have HN5 := Lib.hid (show (0 + 0 + 1 + 0) * 24 ≤ 140737488355328 by omega)
    have HN6 := Lib.hid (show 0 + 0 + 1 + 0 ≤ 140737488355328 by omega)
    have HFW := Lib.hid (HFIN.out (trivial))
    have tok1 : True := trivial
    have tok2 : True := trivial
    have tok3 : True := trivial
    have H0 := Lib.hid (World.ownsRow_nil w w.heap.size 94 2)
    go_wp2_with (first
      | (at_builtin; have _t := tok1; go_must (refine wpList_appk slRAcc rfl _ _ rfl w.heap.size _ 0 [] rfl H0.out none 0 0 (((accs s).take 0).flatMap accC) rfl HTL.out HTK.out (flat_one _ accC_one _) HN1.out HN2.out (Nat.le_refl _) ?_); intro v1 u1 hown1 hg1 hb1 hat1; obtain ⟨L1, hL1⟩ : ∃ L1, 0 + 0 = L1 := ⟨_, rfl⟩; rw [hL1] at hown1; have HL1 := Lib.hid hL1; have HN3 := Lib.hid (show (L1 + 1) * 24 ≤ 140737488355328 by rw [← hL1]; exact HN3.out); have HN4 := Lib.hid (show L1 + 1 ≤ 140737488355328 by rw [← hL1]; exact HN4.out); clear hL1; obtain ⟨A1, c1', hv1, -, -⟩ := own_shape hown1; subst hv1; have HO1 := Lib.hid hown1; have HB1 := Lib.hid hb1; have k1 := cell_below hb1 e0; have HSZ1 := Lib.hid (show w.heap.size ≤ (u1.alloc (.cells #[Value.string name, Value.int .i64 n] 94)).heap.size from Nat.le_trans hb1.size (by simp)); have HOA1 := Lib.hid (own_below hown1 ((Below.refl _ _).alloc (Nat.le_refl _) (.cells #[Value.string name, Value.int .i64 n] 94))); clear tok1 _t hown1 hg1 hb1 hat1)
      | (at_builtin; have _t := tok2; clear tok1; fail)
      | (at_builtin; have _t := tok2; go_must (refine wpList_appk slRAcc rfl _ _ rfl w.heap.size _ L1 ([] ++ ((accs s).take 0).flatMap accC) rfl HOA1.out (some ⟨u1.heap.size, 0, none⟩) 1 1 [Value.string name, Value.int .i64 n] rfl rfl (fun _ => ⟨_, rfl, fun j u hj => World.news_of_block (Go.heap_alloc_new u1 _) j u hj⟩) (by simp [Value.oneCell']) HN3.out HN4.out HSZ1.out ?_); intro v2 u2 hown2 hg2 hb2 hat2; obtain ⟨L2, hL2⟩ : ∃ L2, L1 + 1 = L2 := ⟨_, rfl⟩; rw [hL2] at hown2; have HL2 := Lib.hid hL2; have HN5 := Lib.hid (show (L2 + 0) * 24 ≤ 140737488355328 by rw [← hL2, ← HL1.out]; exact HN5.out); have HN6 := Lib.hid (show L2 + 0 ≤ 140737488355328 by rw [← hL2, ← HL1.out]; exact HN6.out); clear hL2; obtain ⟨A2, c2', hv2, -, -⟩ := own_shape hown2; subst hv2; have HO2 := Lib.hid hown2; have hbb2 := (HB1.out.alloc HB1.out.size (.cells #[Value.string name, Value.int .i64 n] 94)).trans hb2; have HB2 := Lib.hid hbb2; have k2 := cell_below hbb2 e0; have HSZ2 := Lib.hid hbb2.size; have HDR := Lib.hid (HDK.out u2 hbb2); clear tok2 _t hown2 hg2 hb2 hat2 hbb2 k1)
      | (at_builtin; have _t := tok3; go_must (refine wpList_appk slRAcc rfl _ _ rfl w.heap.size _ L2 ([] ++ ((accs s).take 0).flatMap accC ++ [Value.string name, Value.int .i64 n]) rfl HO2.out none 0 0 (((accs s).drop 0).flatMap accC) rfl HDL.out HDR.out (flat_one _ accC_one _) HN5.out HN6.out HSZ2.out ?_); intro v3 u3 hown3 hg3 hb3 hat3; obtain ⟨L3, hL3⟩ : ∃ L3, L2 + 0 = L3 := ⟨_, rfl⟩; rw [hL3] at hown3; have HL3 := Lib.hid (show L3 = 0 + 0 + 1 + 0 by rw [← hL3, ← HL2.out, ← HL1.out]); clear hL3; obtain ⟨A3, c3', hv3, -, -⟩ := own_shape hown3; subst hv3; have HO3 := Lib.hid hown3; have hbb3 := HB2.out.trans hb3; have HB3 := Lib.hid hbb3; have k3 := cell_below hbb3 e0; have f3 := RAt.free (H.out.below hbb3) 0; clear tok3 _t hown3 hg3 hb3 hat3 hbb3 k2))
    go_ret
    have hown3 := HO3.out
    rw [HL3.out] at hown3 ⊢
    exact HFW.out _ _ hown3 HB3.out
set_option maxRecDepth 100000 in
set_option maxHeartbeats 8000000 in
/-- Mint of a further account. -/
theorem rmint_new1 (p : Nat) (ad : Addr) (ca : Nat) (vc vh : Value) (vs : List Value) (s : Led) (name : ByteArray) (n : Int) (w : World) (hs : Inv s) (hnm : name.size ≤ reachBytes) (h : RLed w p (.slice (some ad) (accs s).length ca) vc vh vs s) (h1 : namedB name = true) (h2 : okCoin n = true) (h3 : okCoin (total s + n) = true) (h4 : mget s.coins name = none) (h5 : s.coins.length < 64) :
    Calls Try.prog 47 #[.pointer (some ⟨p, 0, none⟩), .string name, .int .i64 n] w (ROp w p (.slice (some ad) (accs s).length ca) vc vh 0 { s with coins := mset s.coins name n }) := by
  obtain ⟨e0, -, -, -⟩ := RAt.cell h
  have H := Lib.hid h
  have HS := Lib.hid hs
  have hal : (accs s).length < 64 := by rw [accs_len]; exact h5
  have HF := Lib.hid (rfind_none hs h h4)
  have HTOT := Lib.hid (rtot_any p _ _ _ vs s w hs h)
  have htb := total_bounds hs
  have hon := okCoin_iff.1 h2
  unfold maxCoin at hon
  obtain ⟨n0, n1⟩ := hon
  obtain ⟨t0, t1⟩ := htb
  obtain ⟨T, hT⟩ : ∃ T, total s = T := ⟨_, rfl⟩
  rw [hT] at h3 t0 t1
  have HT := Lib.hid hT
  have n1' : ¬ 2100000000000000 < n := by omega
  have t1' : ¬ 2100000000000000 < T := by omega
  have HN := Lib.hid h1
  have HO := Lib.hid h2
  have HO2 := Lib.hid h3
  have hne := acc_noplace h4
  have HNE := Lib.hid hne
  have H4 := Lib.hid h4
  obtain ⟨Ab, cb, hvb, hcap, hca⟩ := RAt.accs h
  injection hvb with hv1 hv2 hv3
  subst hv1
  subst hv3
  have HCA := Lib.hid hca
  have h5I : ¬ (64 : Int) ≤ ((accs s).length : Int) := by omega
  clear hca hv2
  have hkey : ∀ j (hj : j < (accs s).length) (hj2 : j < (skeys s.coins).length), (accs s)[j].1 = (skeys s.coins)[j] := fun j hj hj2 => by rw [accs_at s hj hj2]
  have HKEY := Lib.hid hkey
  have hfin : ∀ k, k ≤ (accs s).length → (∀ j (hj : j < (accs s).length), k ≤ j → bLt name (accs s)[j].1) → (∀ j (hj : j < (accs s).length), j < k → bLt (accs s)[j].1 name) → ∀ w3 v3, w3.ownsRow w.heap.size 94 2 v3 (0 + k + 1 + ((accs s).length - k)) (([] ++ ((accs s).take k).flatMap accC ++ [Value.string name, Value.int .i64 n]) ++ ((accs s).drop k).flatMap accC) → Below w.heap.size w w3 →
      ROp w p (.slice (some ad) (accs s).length ca) vc vh 0 { s with coins := mset s.coins name n } (.returned (.int .i64 0)) (w3.setCell ⟨p, 0, none⟩ v3) := by
    intro k hk hup hlow w3 v3 ho hb
    have hins : accs { s with coins := mset s.coins name n } = (accs s).take k ++ (name, n) :: (accs s).drop k := by
      refine told_ins (g := fun k v => (k, v)) (d := 0) H4.out (fun j hj hjk => ?_) (fun j hj hjk => ?_)
      · have hj2 : j < (accs s).length := by rw [accs_len, ← skeys_len]; exact hj
        rw [← HKEY.out j hj2 hj]
        exact hlow j hj2 hjk
      · have hj2 : j < (accs s).length := by rw [accs_len, ← skeys_len]; exact hj
        rw [← HKEY.out j hj2 hj]
        exact hup j hj2 hjk
    have hl : 0 + k + 1 + ((accs s).length - k) = (accs { s with coins := mset s.coins name n }).length := by rw [hins]; simp; omega
    have hx : ([] ++ ((accs s).take k).flatMap accC ++ [Value.string name, Value.int .i64 n]) ++ ((accs s).drop k).flatMap accC = (accs { s with coins := mset s.coins name n }).flatMap accC := by
      rw [hins, List.flatMap_append, List.flatMap_cons, List.nil_append, List.append_assoc]; rfl
    rw [hl, hx] at ho
    obtain ⟨g1, g2, g3⟩ := RAt.set_accs H.out hb ho
    exact ⟨rfl, _, _, _, _, g1, g2, g3⟩
  have HFN := Lib.hid hfin
  clear h hs h1 h2 h3 h4 h5 hT n1 t1 hne hkey hfin
  go_enter Try.func47, Try.ntmps47
  go_wp2_with fail
  refine HF.out.mono ?_
  rintro e w1 ⟨rfl, rfl⟩
  go_wp2_with fail
  refine (rnamed_any name hnm _).mono ?_
  rw [HN.out]
  rintro e w1 ⟨rfl, rfl⟩
  go_wp2_with fail
  refine (rcoins_any n _).mono ?_
  rw [HO.out]
  rintro e w1 ⟨rfl, rfl⟩
  go_wp2_with fail
  refine HTOT.out.mono ?_
  rw [HT.out]
  rintro e w1 ⟨rfl, rfl⟩
  go_wp2_with fail
  refine (rcoins_any (T + n) _).mono ?_
  rw [HO2.out]
  rintro e w1 ⟨rfl, rfl⟩
  go_wp2_with fail
  go_loop [8] (fun i => ∃ k : Nat, k ≤ (accs s).length ∧ i = .int .i64 k ∧ ∀ j (hj : j < (accs s).length), k ≤ j → bLt name (accs s)[j].1) (fun i => (intOf i).toNat)
  case atStart => exact ⟨(accs s).length, Nat.le_refl _, rfl, fun j hj h => by omega⟩
  case round =>
    obtain ⟨k, hk, rfl, hall⟩ := hrel
    have HALL := Lib.hid hall
    have HFIN := Lib.hid (HFN.out k hk hall)
    clear hall
    have HDL := Lib.hid (show (((accs s).drop k).flatMap accC).length = ((accs s).length - k) * 2 by rw [flat_len accC 2 (fun _ => rfl), List.length_drop])
    have HTL := Lib.hid (show (((accs s).take k).flatMap accC).length = k * 2 by rw [flat_len accC 2 (fun _ => rfl), List.length_take, Nat.min_eq_left hk])
    have HTK := Lib.hid (flat_take accC HCA.out k)
    have HDK := Lib.hid (fun (w' : World) (hb : Below w.heap.size w w') => flat_drop accC 2 (fun _ => rfl) (HCA.out.below hb) k hk)
    have HN1 := Lib.hid (show (0 + k) * 24 ≤ 140737488355328 by omega)
    have HN2 := Lib.hid (show 0 + k ≤ 140737488355328 by omega)
    have HN3 := Lib.hid (show (0 + k + 1) * 24 ≤ 140737488355328 by omega)
    have HN4 := Lib.hid (show 0 + k + 1 ≤ 140737488355328 by omega)
    have HN5 := Lib.hid (show (0 + k + 1 + ((accs s).length - k)) * 24 ≤ 140737488355328 by omega)
    have HN6 := Lib.hid (show 0 + k + 1 + ((accs s).length - k) ≤ 140737488355328 by omega)
    by_cases hk0 : k = 0
    · subst hk0
      have HFW := Lib.hid (HFIN.out (fun j _ h => absurd h (Nat.not_lt_zero j)))
      have tok1 : True := trivial
      have tok2 : True := trivial
      have tok3 : True := trivial
      have H0 := Lib.hid (World.ownsRow_nil w w.heap.size 94 2)
      go_wp2_with (first
        | (at_builtin; have _t := tok1; go_must (refine wpList_appk slRAcc rfl _ _ rfl w.heap.size _ 0 [] rfl H0.out (some ad) 0 ca (((accs s).take 0).flatMap accC) rfl HTL.out HTK.out (flat_one _ accC_one _) HN1.out HN2.out (Nat.le_refl _) ?_); intro v1 u1 hown1 hg1 hb1 hat1; obtain ⟨L1, hL1⟩ : ∃ L1, 0 + 0 = L1 := ⟨_, rfl⟩; rw [hL1] at hown1; have HL1 := Lib.hid hL1; have HN3 := Lib.hid (show (L1 + 1) * 24 ≤ 140737488355328 by rw [← hL1]; exact HN3.out); have HN4 := Lib.hid (show L1 + 1 ≤ 140737488355328 by rw [← hL1]; exact HN4.out); clear hL1; obtain ⟨A1, c1', hv1, -, -⟩ := own_shape hown1; subst hv1; have HO1 := Lib.hid hown1; have HB1 := Lib.hid hb1; have k1 := cell_below hb1 e0; have HSZ1 := Lib.hid (show w.heap.size ≤ (u1.alloc (.cells #[Value.string name, Value.int .i64 n] 94)).heap.size from Nat.le_trans hb1.size (by simp)); have HOA1 := Lib.hid (own_below hown1 ((Below.refl _ _).alloc (Nat.le_refl _) (.cells #[Value.string name, Value.int .i64 n] 94))); clear tok1 _t hown1 hg1 hb1 hat1)
        | (at_builtin; have _t := tok2; clear tok1; fail)
        | (at_builtin; have _t := tok2; go_must (refine wpList_appk slRAcc rfl _ _ rfl w.heap.size _ L1 ([] ++ ((accs s).take 0).flatMap accC) rfl HOA1.out (some ⟨u1.heap.size, 0, none⟩) 1 1 [Value.string name, Value.int .i64 n] rfl rfl (fun _ => ⟨_, rfl, fun j u hj => World.news_of_block (Go.heap_alloc_new u1 _) j u hj⟩) (by simp [Value.oneCell']) HN3.out HN4.out HSZ1.out ?_); intro v2 u2 hown2 hg2 hb2 hat2; obtain ⟨L2, hL2⟩ : ∃ L2, L1 + 1 = L2 := ⟨_, rfl⟩; rw [hL2] at hown2; have HL2 := Lib.hid hL2; have HN5 := Lib.hid (show (L2 + ((accs s).length - 0)) * 24 ≤ 140737488355328 by rw [← hL2, ← HL1.out]; exact HN5.out); have HN6 := Lib.hid (show L2 + ((accs s).length - 0) ≤ 140737488355328 by rw [← hL2, ← HL1.out]; exact HN6.out); clear hL2; obtain ⟨A2, c2', hv2, -, -⟩ := own_shape hown2; subst hv2; have HO2 := Lib.hid hown2; have hbb2 := (HB1.out.alloc HB1.out.size (.cells #[Value.string name, Value.int .i64 n] 94)).trans hb2; have HB2 := Lib.hid hbb2; have k2 := cell_below hbb2 e0; have HSZ2 := Lib.hid hbb2.size; have HDR := Lib.hid (HDK.out u2 hbb2); clear tok2 _t hown2 hg2 hb2 hat2 hbb2 k1)
        | (at_builtin; have _t := tok3; go_must (refine wpList_appk slRAcc rfl _ _ rfl w.heap.size _ L2 ([] ++ ((accs s).take 0).flatMap accC ++ [Value.string name, Value.int .i64 n]) rfl HO2.out (some (ad.add (0 * 2))) ((accs s).length - 0) (ca - 0) (((accs s).drop 0).flatMap accC) rfl HDL.out HDR.out (flat_one _ accC_one _) HN5.out HN6.out HSZ2.out ?_); intro v3 u3 hown3 hg3 hb3 hat3; obtain ⟨L3, hL3⟩ : ∃ L3, L2 + ((accs s).length - 0) = L3 := ⟨_, rfl⟩; rw [hL3] at hown3; have HL3 := Lib.hid (show L3 = 0 + 0 + 1 + ((accs s).length - 0) by rw [← hL3, ← HL2.out, ← HL1.out]); clear hL3; obtain ⟨A3, c3', hv3, -, -⟩ := own_shape hown3; subst hv3; have HO3 := Lib.hid hown3; have hbb3 := HB2.out.trans hb3; have HB3 := Lib.hid hbb3; have k3 := cell_below hbb3 e0; have f3 := RAt.free (H.out.below hbb3) 0; clear tok3 _t hown3 hg3 hb3 hat3 hbb3 k2))
      go_ret
      have hown3 := HO3.out
      rw [HL3.out] at hown3 ⊢
      exact HFW.out _ _ hown3 HB3.out
    · obtain ⟨ad', he, c0, -⟩ := acc_look HCA.out (k := k - 1) (by omega)
      injection he with he
      subst he
      have hne := HNE.out (k - 1) (by omega)
      have hxl : ∀ j (hj : j < (accs s).length), j < k → bLe (accs s)[j].1 ((accs s)[k - 1]'(by omega)).1 := fun j hj hjk => by
        have hj2 : j < (skeys s.coins).length := by rw [skeys_len, ← accs_len]; exact hj
        have hk2 : k - 1 < (skeys s.coins).length := by rw [skeys_len, ← accs_len]; omega
        rw [HKEY.out j hj hj2, HKEY.out (k - 1) (by omega) hk2]
        exact skeys_lt (by omega) hk2
      obtain ⟨P, hP⟩ : ∃ P, ((accs s)[k - 1]'(by omega)).1 = P := ⟨_, rfl⟩
      rw [hP] at c0 hne
      have HP := Lib.hid hP
      have he2 := tl_f hne
      by_cases hlt : bLt name P
      · have he1 := less_f (bLt_not hlt)
        have HLT := Lib.hid hlt
        clear hne hlt hxl hP
        go_wp2_with fail
        go_round
        case rel =>
          refine ⟨k - 1, by omega, by first | rfl | (congr 1; omega), fun j hj hjk => ?_⟩
          rcases Nat.lt_or_ge j k with h | h
          · obtain rfl : j = k - 1 := by omega
            rw [HP.out]; exact HLT.out
          · exact HALL.out j hj h
        case measure => simp [intOf]; omega
      · have hlt2 : bLt P name := (bLt_or hne).resolve_right hlt
        have he1 := less_t hlt2
        have HXL := Lib.hid (fun j (hj : j < (accs s).length) (hjk : j < k) => bLe_lt (hxl j hj hjk) (by rw [hP]; exact hlt2))
        clear hne hlt hlt2 hxl hP
        have hcap2 := hcap
        by_cases hce : ca = k
        · have hlk : (accs s).length - k = 0 := by omega
          have hdrop : (accs s).drop k = [] := List.drop_of_length_le (by omega)
          have hfw := HFIN.out HXL.out
          have h5 := HN5.out
          have h6 := HN6.out
          have h7 := HDL.out
          rw [hlk] at hfw h5 h6 h7
          have HFIN := Lib.hid (fun (_ : True) => hfw)
          have HN5 := Lib.hid h5
          have HN6 := Lib.hid h6
          have HDL := Lib.hid h7
          have HDK := Lib.hid (fun (w' : World) (_ : Below w.heap.size w w') => (show Cells w' (some ad) (((accs s).drop k).flatMap accC) by rw [hdrop]; exact Cells.nil _ _))
          subst hce
          clear hfw h5 h6 h7 hlk hdrop hcap2
          have HFW := Lib.hid (HFIN.out (trivial))
          have tok1 : True := trivial
          have tok2 : True := trivial
          have tok3 : True := trivial
          have H0 := Lib.hid (World.ownsRow_nil w w.heap.size 94 2)
          go_wp2_with (first
            | (at_builtin; have _t := tok1; go_must (refine wpList_appk slRAcc rfl _ _ rfl w.heap.size _ 0 [] rfl H0.out (some ad) ca ca (((accs s).take ca).flatMap accC) rfl HTL.out HTK.out (flat_one _ accC_one _) HN1.out HN2.out (Nat.le_refl _) ?_); intro v1 u1 hown1 hg1 hb1 hat1; obtain ⟨L1, hL1⟩ : ∃ L1, 0 + ca = L1 := ⟨_, rfl⟩; rw [hL1] at hown1; have HL1 := Lib.hid hL1; have HN3 := Lib.hid (show (L1 + 1) * 24 ≤ 140737488355328 by rw [← hL1]; exact HN3.out); have HN4 := Lib.hid (show L1 + 1 ≤ 140737488355328 by rw [← hL1]; exact HN4.out); clear hL1; obtain ⟨A1, c1', hv1, -, -⟩ := own_shape hown1; subst hv1; have HO1 := Lib.hid hown1; have HB1 := Lib.hid hb1; have k1 := cell_below hb1 e0; have HSZ1 := Lib.hid (show w.heap.size ≤ (u1.alloc (.cells #[Value.string name, Value.int .i64 n] 94)).heap.size from Nat.le_trans hb1.size (by simp)); have HOA1 := Lib.hid (own_below hown1 ((Below.refl _ _).alloc (Nat.le_refl _) (.cells #[Value.string name, Value.int .i64 n] 94))); clear tok1 _t hown1 hg1 hb1 hat1)
            | (at_builtin; have _t := tok2; clear tok1; fail)
            | (at_builtin; have _t := tok2; go_must (refine wpList_appk slRAcc rfl _ _ rfl w.heap.size _ L1 ([] ++ ((accs s).take ca).flatMap accC) rfl HOA1.out (some ⟨u1.heap.size, 0, none⟩) 1 1 [Value.string name, Value.int .i64 n] rfl rfl (fun _ => ⟨_, rfl, fun j u hj => World.news_of_block (Go.heap_alloc_new u1 _) j u hj⟩) (by simp [Value.oneCell']) HN3.out HN4.out HSZ1.out ?_); intro v2 u2 hown2 hg2 hb2 hat2; obtain ⟨L2, hL2⟩ : ∃ L2, L1 + 1 = L2 := ⟨_, rfl⟩; rw [hL2] at hown2; have HL2 := Lib.hid hL2; have HN5 := Lib.hid (show (L2 + 0) * 24 ≤ 140737488355328 by rw [← hL2, ← HL1.out]; exact HN5.out); have HN6 := Lib.hid (show L2 + 0 ≤ 140737488355328 by rw [← hL2, ← HL1.out]; exact HN6.out); clear hL2; obtain ⟨A2, c2', hv2, -, -⟩ := own_shape hown2; subst hv2; have HO2 := Lib.hid hown2; have hbb2 := (HB1.out.alloc HB1.out.size (.cells #[Value.string name, Value.int .i64 n] 94)).trans hb2; have HB2 := Lib.hid hbb2; have k2 := cell_below hbb2 e0; have HSZ2 := Lib.hid hbb2.size; have HDR := Lib.hid (HDK.out u2 hbb2); clear tok2 _t hown2 hg2 hb2 hat2 hbb2 k1)
            | (at_builtin; have _t := tok3; go_must (refine wpList_appk slRAcc rfl _ _ rfl w.heap.size _ L2 ([] ++ ((accs s).take ca).flatMap accC ++ [Value.string name, Value.int .i64 n]) rfl HO2.out (some ad) 0 0 (((accs s).drop ca).flatMap accC) rfl HDL.out HDR.out (flat_one _ accC_one _) HN5.out HN6.out HSZ2.out ?_); intro v3 u3 hown3 hg3 hb3 hat3; obtain ⟨L3, hL3⟩ : ∃ L3, L2 + 0 = L3 := ⟨_, rfl⟩; rw [hL3] at hown3; have HL3 := Lib.hid (show L3 = 0 + ca + 1 + 0 by rw [← hL3, ← HL2.out, ← HL1.out]); clear hL3; obtain ⟨A3, c3', hv3, -, -⟩ := own_shape hown3; subst hv3; have HO3 := Lib.hid hown3; have hbb3 := HB2.out.trans hb3; have HB3 := Lib.hid hbb3; have k3 := cell_below hbb3 e0; have f3 := RAt.free (H.out.below hbb3) 0; clear tok3 _t hown3 hg3 hb3 hat3 hbb3 k2))
          go_ret
          have hown3 := HO3.out
          rw [HL3.out] at hown3 ⊢
          exact HFW.out _ _ hown3 HB3.out
        · clear hcap2
          have HFW := Lib.hid (HFIN.out (HXL.out))
          have tok1 : True := trivial
          have tok2 : True := trivial
          have tok3 : True := trivial
          have H0 := Lib.hid (World.ownsRow_nil w w.heap.size 94 2)
          go_wp2_with (first
            | (at_builtin; have _t := tok1; go_must (refine wpList_appk slRAcc rfl _ _ rfl w.heap.size _ 0 [] rfl H0.out (some ad) k ca (((accs s).take k).flatMap accC) rfl HTL.out HTK.out (flat_one _ accC_one _) HN1.out HN2.out (Nat.le_refl _) ?_); intro v1 u1 hown1 hg1 hb1 hat1; obtain ⟨L1, hL1⟩ : ∃ L1, 0 + k = L1 := ⟨_, rfl⟩; rw [hL1] at hown1; have HL1 := Lib.hid hL1; have HN3 := Lib.hid (show (L1 + 1) * 24 ≤ 140737488355328 by rw [← hL1]; exact HN3.out); have HN4 := Lib.hid (show L1 + 1 ≤ 140737488355328 by rw [← hL1]; exact HN4.out); clear hL1; obtain ⟨A1, c1', hv1, -, -⟩ := own_shape hown1; subst hv1; have HO1 := Lib.hid hown1; have HB1 := Lib.hid hb1; have k1 := cell_below hb1 e0; have HSZ1 := Lib.hid (show w.heap.size ≤ (u1.alloc (.cells #[Value.string name, Value.int .i64 n] 94)).heap.size from Nat.le_trans hb1.size (by simp)); have HOA1 := Lib.hid (own_below hown1 ((Below.refl _ _).alloc (Nat.le_refl _) (.cells #[Value.string name, Value.int .i64 n] 94))); clear tok1 _t hown1 hg1 hb1 hat1)
            | (at_builtin; have _t := tok2; clear tok1; fail)
            | (at_builtin; have _t := tok2; go_must (refine wpList_appk slRAcc rfl _ _ rfl w.heap.size _ L1 ([] ++ ((accs s).take k).flatMap accC) rfl HOA1.out (some ⟨u1.heap.size, 0, none⟩) 1 1 [Value.string name, Value.int .i64 n] rfl rfl (fun _ => ⟨_, rfl, fun j u hj => World.news_of_block (Go.heap_alloc_new u1 _) j u hj⟩) (by simp [Value.oneCell']) HN3.out HN4.out HSZ1.out ?_); intro v2 u2 hown2 hg2 hb2 hat2; obtain ⟨L2, hL2⟩ : ∃ L2, L1 + 1 = L2 := ⟨_, rfl⟩; rw [hL2] at hown2; have HL2 := Lib.hid hL2; have HN5 := Lib.hid (show (L2 + ((accs s).length - k)) * 24 ≤ 140737488355328 by rw [← hL2, ← HL1.out]; exact HN5.out); have HN6 := Lib.hid (show L2 + ((accs s).length - k) ≤ 140737488355328 by rw [← hL2, ← HL1.out]; exact HN6.out); clear hL2; obtain ⟨A2, c2', hv2, -, -⟩ := own_shape hown2; subst hv2; have HO2 := Lib.hid hown2; have hbb2 := (HB1.out.alloc HB1.out.size (.cells #[Value.string name, Value.int .i64 n] 94)).trans hb2; have HB2 := Lib.hid hbb2; have k2 := cell_below hbb2 e0; have HSZ2 := Lib.hid hbb2.size; have HDR := Lib.hid (HDK.out u2 hbb2); clear tok2 _t hown2 hg2 hb2 hat2 hbb2 k1)
            | (at_builtin; have _t := tok3; go_must (refine wpList_appk slRAcc rfl _ _ rfl w.heap.size _ L2 ([] ++ ((accs s).take k).flatMap accC ++ [Value.string name, Value.int .i64 n]) rfl HO2.out (some (ad.add (k * 2))) ((accs s).length - k) (ca - k) (((accs s).drop k).flatMap accC) rfl HDL.out HDR.out (flat_one _ accC_one _) HN5.out HN6.out HSZ2.out ?_); intro v3 u3 hown3 hg3 hb3 hat3; obtain ⟨L3, hL3⟩ : ∃ L3, L2 + ((accs s).length - k) = L3 := ⟨_, rfl⟩; rw [hL3] at hown3; have HL3 := Lib.hid (show L3 = 0 + k + 1 + ((accs s).length - k) by rw [← hL3, ← HL2.out, ← HL1.out]); clear hL3; obtain ⟨A3, c3', hv3, -, -⟩ := own_shape hown3; subst hv3; have HO3 := Lib.hid hown3; have hbb3 := HB2.out.trans hb3; have HB3 := Lib.hid hbb3; have k3 := cell_below hbb3 e0; have f3 := RAt.free (H.out.below hbb3) 0; clear tok3 _t hown3 hg3 hb3 hat3 hbb3 k2))
          go_ret
          have hown3 := HO3.out
          rw [HL3.out] at hown3 ⊢
          exact HFW.out _ _ hown3 HB3.out
/-- Mint of a new account. -/
theorem rmint_new (p : Nat) (va vc vh : Value) (vs : List Value) (s : Led) (name : ByteArray) (n : Int) (w : World) (hs : Inv s) (hnm : name.size ≤ reachBytes) (h : RLed w p va vc vh vs s) (h1 : namedB name = true) (h2 : okCoin n = true) (h3 : okCoin (total s + n) = true) (h4 : mget s.coins name = none) (h5 : s.coins.length < 64) :
    Calls Try.prog 47 #[.pointer (some ⟨p, 0, none⟩), .string name, .int .i64 n] w (ROp w p va vc vh 0 { s with coins := mset s.coins name n }) := by
  rcases (RAt.oa h).2 with ⟨rfl, hz⟩ | ⟨g, cap, cur, rfl, -⟩
  · exact rmint_new0 p vc vh vs s name n w hs hnm h (List.eq_nil_of_length_eq_zero hz) h1 h2 h3 h4 h5
  · exact rmint_new1 p ⟨g, 0, none⟩ cap vc vh vs s name n w hs hnm h h1 h2 h3 h4 h5
end Go.Proofs.Ytmlcojhanimnpaa

namespace Go.Proofs.Ytmlcojhanimnpaa
open Go.RowKit

theorem rfind_any {s : Led} {w : World} {p : Nat} {va vc vh : Value} {vs : List Value} (hs : Inv s) (h : RLed w p va vc vh vs s) (name : ByteArray) :
    ∃ r : Int, Calls Try.prog 78 #[.pointer (some ⟨p, 0, none⟩), .string name] w fun e w' => e = .returned (.int .i64 r) ∧ w = w' := by
  cases hm : mget s.coins name with
  | none => exact ⟨_, rfind_none hs h hm⟩
  | some v =>
    obtain ⟨i, hi, h1, -, h2⟩ := acc_place hs.nk (name := name) (by rw [hm]; rfl)
    exact ⟨_, rfind_some hs h hi h1 h2⟩
set_option maxRecDepth 100000 in
set_option maxHeartbeats 8000000 in
theorem rmint_any (p : Nat) (va vc vh : Value) (vs : List Value) (s : Led) (name : ByteArray) (n : Int) (w : World) (hs : Inv s) (hnm : name.size ≤ reachBytes) (h : RLed w p va vc vh vs s) :
    Calls Try.prog 47 #[.pointer (some ⟨p, 0, none⟩), .string name, .int .i64 n] w (ROp w p va vc vh (mint s name n).1 (mint s name n).2) := by
  have H := Lib.hid h
  obtain ⟨r, hF⟩ := rfind_any hs h name
  have HF := Lib.hid hF
  clear hF
  cases hn : namedB name with
  | false =>
    have hr : mint s name n = (2, s) := by unfold mint; rw [if_pos hn]
    rw [hr]
    have HN := Lib.hid hn
    clear h hs hr hn
    go_enter Try.func47, Try.ntmps47
    go_wp2_with fail
    refine HF.out.mono ?_
    rintro e w1 ⟨rfl, rfl⟩
    go_wp2_with fail
    refine (rnamed_any name hnm _).mono ?_
    rw [HN.out]
    rintro e w1 ⟨rfl, rfl⟩
    go_wp2_with fail
    go_ret
    exact ROp.same H.out (Below.refl _ _)
  | true =>
    cases ho : okCoin n with
    | false =>
      have hr : mint s name n = (40, s) := by unfold mint; rw [if_neg (by rw [hn]; simp), if_pos (by rw [ho]; rfl)]
      rw [hr]
      have HN := Lib.hid hn
      have HO := Lib.hid ho
      clear h hs hr hn ho
      go_enter Try.func47, Try.ntmps47
      go_wp2_with fail
      refine HF.out.mono ?_
      rintro e w1 ⟨rfl, rfl⟩
      go_wp2_with fail
      refine (rnamed_any name hnm _).mono ?_
      rw [HN.out]
      rintro e w1 ⟨rfl, rfl⟩
      go_wp2_with fail
      refine (rcoins_any n _).mono ?_
      rw [HO.out]
      rintro e w1 ⟨rfl, rfl⟩
      go_wp2_with fail
      go_ret
      exact ROp.same H.out (Below.refl _ _)
    | true =>
      have hon := okCoin_iff.1 ho
      unfold maxCoin at hon
      obtain ⟨n0, n1⟩ := hon
      obtain ⟨t0, t1⟩ := total_bounds hs
      have HTOT := Lib.hid (rtot_any p _ _ _ vs s w hs h)
      obtain ⟨T, hT⟩ : ∃ T, total s = T := ⟨_, rfl⟩
      rw [hT] at t0 t1
      have HT := Lib.hid hT
      have n1' : ¬ 2100000000000000 < n := by omega
      have t1' : ¬ 2100000000000000 < T := by omega
      clear n1 t1
      cases ho2 : okCoin (T + n) with
      | false =>
        have hr : mint s name n = (40, s) := by unfold mint; rw [if_neg (by rw [hn]; simp), if_pos (by rw [ho, hT, ho2]; rfl)]
        rw [hr]
        have HN := Lib.hid hn
        have HO := Lib.hid ho
        have HO2 := Lib.hid ho2
        clear h hs hr hn ho ho2 hT
        go_enter Try.func47, Try.ntmps47
        go_wp2_with fail
        refine HF.out.mono ?_
        rintro e w1 ⟨rfl, rfl⟩
        go_wp2_with fail
        refine (rnamed_any name hnm _).mono ?_
        rw [HN.out]
        rintro e w1 ⟨rfl, rfl⟩
        go_wp2_with fail
        refine (rcoins_any n _).mono ?_
        rw [HO.out]
        rintro e w1 ⟨rfl, rfl⟩
        go_wp2_with fail
        refine HTOT.out.mono ?_
        rw [HT.out]
        rintro e w1 ⟨rfl, rfl⟩
        go_wp2_with fail
        refine (rcoins_any (T + n) _).mono ?_
        rw [HO2.out]
        rintro e w1 ⟨rfl, rfl⟩
        go_wp2_with fail
        go_ret
        exact ROp.same H.out (Below.refl _ _)
      | true =>
        cases hm : mget s.coins name with
        | none =>
          by_cases h5 : s.coins.length < 64
          · have hr : mint s name n = (0, { s with coins := mset s.coins name n }) := by
              unfold mint
              rw [if_neg (by rw [hn]; simp), if_neg (by rw [ho, hT, ho2]; simp), if_neg (by omega), hm]
              simp
            rw [hr]
            exact rmint_new p va vc vh vs s name n w hs hnm h hn ho (by rw [hT]; exact ho2) hm h5
          · have hr : mint s name n = (3, s) := by unfold mint; rw [if_neg (by rw [hn]; simp), if_neg (by rw [ho, hT, ho2]; simp), if_pos ⟨by rw [hm]; rfl, by omega⟩]
            rw [hr]
            obtain ⟨e0, -, -, -⟩ := RAt.cell h
            obtain ⟨Aa, ca, rfl, -, -⟩ := RAt.accs h
            have h64 : (64 : Int) ≤ ((accs s).length : Int) := by rw [accs_len]; omega
            have hal : (accs s).length ≤ 64 := by rw [accs_len]; exact hs.lk
            have HF := Lib.hid (rfind_none hs h hm)
            have HN := Lib.hid hn
            have HO := Lib.hid ho
            have HO2 := Lib.hid ho2
            clear h hs hr hn ho ho2 hT hm h5
            go_enter Try.func47, Try.ntmps47
            go_wp2_with fail
            refine HF.out.mono ?_
            rintro e w1 ⟨rfl, rfl⟩
            go_wp2_with fail
            refine (rnamed_any name hnm _).mono ?_
            rw [HN.out]
            rintro e w1 ⟨rfl, rfl⟩
            go_wp2_with fail
            refine (rcoins_any n _).mono ?_
            rw [HO.out]
            rintro e w1 ⟨rfl, rfl⟩
            go_wp2_with fail
            refine HTOT.out.mono ?_
            rw [HT.out]
            rintro e w1 ⟨rfl, rfl⟩
            go_wp2_with fail
            refine (rcoins_any (T + n) _).mono ?_
            rw [HO2.out]
            rintro e w1 ⟨rfl, rfl⟩
            go_wp2_with fail
            go_ret
            exact ROp.same H.out (Below.refl _ _)
        | some v =>
          have hr : mint s name n = (0, { s with coins := mset s.coins name (cq s name + n) }) := by
            unfold mint
            rw [if_neg (by rw [hn]; simp), if_neg (by rw [ho, hT, ho2]; simp), if_neg (by rw [hm]; simp)]
            rfl
          rw [hr]
          obtain ⟨e0, -, -, -⟩ := RAt.cell h
          obtain ⟨i, hi, h1, -, h2⟩ := acc_place hs.nk (name := name) (by rw [hm]; rfl)
          obtain ⟨Aa, ca, rfl, -, -⟩ := RAt.accs h
          have hAs : ∃ ad, Aa = some ad := by
            obtain ⟨ad, hA, -⟩ := RAt.acc_put h hi
            exact ⟨ad, hA⟩
          obtain ⟨ad, rfl⟩ := hAs
          obtain ⟨c1, fz1, hput⟩ := rput_coins hs.nk h hi h1
          have HF := Lib.hid (rfind_some hs h hi h1 h2)
          have HPUT := Lib.hid hput
          have hal : (accs s).length ≤ 64 := by rw [accs_len]; exact hs.lk
          have hq0 := cq_pos hs name
          have hq1 : cq s name ≤ 2100000000000000 := by
            unfold cq; rw [hm]; have := (coin_le hs hm).2; unfold maxCoin at this; simpa using this
          obtain ⟨Q, hQ⟩ : ∃ Q, cq s name = Q := ⟨_, rfl⟩
          rw [hQ] at c1 hq0 hq1 ⊢
          have hq1' : ¬ 2100000000000000 < Q := by omega
          have HN := Lib.hid hn
          have HO := Lib.hid ho
          have HO2 := Lib.hid ho2
          clear h hs hr hn ho ho2 hT hm h1 h2 hput hq1 hQ
          go_enter Try.func47, Try.ntmps47
          go_wp2_with fail
          refine HF.out.mono ?_
          rintro e w1 ⟨rfl, rfl⟩
          go_wp2_with fail
          refine (rnamed_any name hnm _).mono ?_
          rw [HN.out]
          rintro e w1 ⟨rfl, rfl⟩
          go_wp2_with fail
          refine (rcoins_any n _).mono ?_
          rw [HO.out]
          rintro e w1 ⟨rfl, rfl⟩
          go_wp2_with fail
          refine HTOT.out.mono ?_
          rw [HT.out]
          rintro e w1 ⟨rfl, rfl⟩
          go_wp2_with fail
          refine (rcoins_any (T + n) _).mono ?_
          rw [HO2.out]
          rintro e w1 ⟨rfl, rfl⟩
          go_wp2_with fail
          go_region
          go_wp2_with fail
          go_ret
          obtain ⟨hL2, hF2⟩ := HPUT.out (Q + n) ((w.setCell ⟨(ad.add (i * 2)).block, (ad.add (i * 2)).off + 1, none⟩ (.int .i64 (Q + n))).drew) rfl rfl rfl rfl
          exact rop_of hL2 hF2
end Go.Proofs.Ytmlcojhanimnpaa
