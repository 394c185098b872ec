/- Whenever the power fails, and whichever writes stay: Open tells what was answered with OK, and behind it nothing, or all of what was under way: for every row of turns. -/
import Derived.Test.YtladknjmoahdoaaQ8
import Derived.Test.YtladknjmoahdoaaFrame
import Derived.Deep.Slices
import Derived.Deep.Fields
import Derived.ChangeSame
import Derived.ChangeArms
import Derived.OpenShut
set_option linter.all false
namespace Go.Proofs.Ytladknjmoahdoaa
open Go.RowKit Go.ChangeShapes Go.WideShapes Go.Deep Go.ChangeAt Go.WideMaps Go.WideElems Go

section
variable {H : Type} {enc : TypeId × Value → H} {P : Program} {w : World} {base : Nat} {spare : Nat → Bool} {held : Bool}
theorem open_slice_fields {t e : TypeId} {fs : Array Field} {fuel : Nat} {cs : List Value} {x : DataW H × List MemPlace} (ht : P.underlying t = some (.slice e)) (he : P.underlying e = some (.struct fs))
    (hone : oneCellFields P fs = true) (hC : P.cellsOf e = fs.size) (h : DataW.trod enc P w base spare held fuel t cs = some x) :
    (cs = [.slice none 0 0] ∧ x = (.nil, [])) ∨
    ∃ (a : Addr) (len cap m : Nat) (D : Nat → DataW H) (Pl : Nat → List MemPlace), cs = [.slice (some a) len cap] ∧ base ≤ a.block ∧ len ≤ cap ∧ cap ≤ maxLen ∧ m = (if spare a.block then cap else len) ∧
      x = (.slice ((List.range len).map D) ((List.range (m - len)).map fun j => D (len + j)), MemPlace.row a (m * fs.size) ++ (List.range m).flatMap Pl) ∧
      ∀ i, i < m → ∃ (ys : List (DataW H × List MemPlace)) (n : Nat), D i = .agg (ys.map (·.1)) ∧ Pl i = ys.flatMap (·.2) ∧ ys.length = fs.size ∧
        ∀ (j : Nat) (f : Field), fs[j]? = some f → ∃ (v : Value) (y : DataW H × List MemPlace), w.cell? (a.add (i * fs.size + j)) = some v ∧ ys[j]? = some y ∧ DataW.trod enc P w base spare held n f.type [v] = some y := by
  rcases open_slice ht h with h0 | ⟨a, len, cap, m, n, D, Pl, hcs, hb, hl, hm, hmm, hx, hi⟩
  · exact .inl h0
  · refine .inr ⟨a, len, cap, m, D, Pl, hcs, hb, hl, hm, hmm, by rw [hC] at hx; exact hx, fun i him => ?_⟩
    obtain ⟨cs', hc, ht'⟩ := hi i him
    rw [hC] at hc
    obtain ⟨ys, n', hn', hy, hlen, hyl, hf⟩ := DataW.trod_struct he ht'
    obtain ⟨_, hcl, hat⟩ := World.cells?_some hc
    simp only [Prod.mk.injEq] at hy
    refine ⟨ys, n', hy.1, hy.2, hyl, fun j f hj => ?_⟩
    obtain ⟨ho, hk⟩ := hone_of hone j f hj
    have hjl : j < fs.size := (Array.getElem?_eq_some_iff.1 hj).1
    have hcell := hat j hjl
    have hv : cs'[j]? = some (cs'[j]'(by omega)) := List.getElem?_eq_getElem (by omega)
    have h1 := hf j f hj
    rw [ho, hk] at h1
    have hone' : (cs'.drop j).take 1 = [cs'[j]'(by omega)] := by
      rw [List.drop_eq_getElem_cons (by omega)]
      rfl
    rw [hone'] at h1
    have hys : ys[j]? = some (ys[j]'(by omega)) := List.getElem?_eq_getElem (by omega)
    refine ⟨_, _, ?_, hys, h1.trans hys⟩
    rw [← Go.Deep.add_add, hcell, hv]
end
theorem list_of {α : Type} {n : Nat} {P : Nat → α → Prop} (h : ∀ i, i < n → ∃ x, P i x) : ∃ l : List α, l.length = n ∧ ∀ i (hi : i < l.length), P i l[i] := by
  induction n with
  | zero => exact ⟨[], rfl, fun i hi => absurd hi (by simp)⟩
  | succ n ih =>
    obtain ⟨l, hl, hp⟩ := ih fun i hi => h i (by omega)
    obtain ⟨x, hx⟩ := h n (by omega)
    refine ⟨l ++ [x], by simp [hl], fun i hi => ?_⟩
    by_cases e : i < l.length
    · rw [List.getElem_append_left e]; exact hp i e
    · have : i = n := by simp at hi; omega
      subst this
      rw [List.getElem_append_right (by omega)]
      simp [hl]; exact hx
section
variable {H : Type} {P : Program} {B : Nat}
theorem weightsAll_le {e : TypeId} : ∀ {l : List (DataW H)}, (∀ n ∈ DataW.weightsAll P e l, n ≤ B) → ∀ d ∈ l, ∀ n ∈ d.weights P e, n ≤ B
  | [], _, d, hd => by cases hd
  | y :: r, h, d, hd => by
    intro n hn
    rcases List.mem_cons.1 hd with rfl | hd
    · exact h n (by unfold DataW.weightsAll; exact List.mem_append_left _ hn)
    · exact weightsAll_le (l := r) (fun m hm => h m (by unfold DataW.weightsAll; exact List.mem_append_right _ hm)) d hd n hn
theorem weightsEach_le : ∀ {ts : List TypeId} {l : List (DataW H)}, (∀ n ∈ DataW.weightsEach P ts l, n ≤ B) → ∀ (j : Nat) (t : TypeId) (d : DataW H), ts[j]? = some t → l[j]? = some d → ∀ n ∈ d.weights P t, n ≤ B
  | [], _, _, j, t, d, ht, _ => by simp at ht
  | _ :: _, [], _, j, t, d, _, hd => by simp at hd
  | u :: ts, y :: r, h, 0, t, d, ht, hd => by
    intro n hn
    have e1 : u = t := by simpa using ht
    have e2 : y = d := by simpa using hd
    subst e1; subst e2
    exact h n (by unfold DataW.weightsEach; exact List.mem_append_left _ hn)
  | u :: ts, y :: r, h, j + 1, t, d, ht, hd => weightsEach_le (ts := ts) (l := r) (fun m hm => h m (by unfold DataW.weightsEach; exact List.mem_append_right _ hm)) j t d (by simpa using ht) (by simpa using hd)
theorem weight_string {t : TypeId} {s : ByteArray} (h : ∀ n ∈ (DataW.lit (.string s.data.toList) : DataW H).weights P t, n ≤ B) : s.size ≤ B := by
  have := h s.data.toList.length (by simp [DataW.weights])
  simpa using this
theorem weight_slice {t e : TypeId} {k : Nat} {elems spare : List (DataW H)} (ht : P.underlying t = some (.slice e)) (hk : P.bytesOf e = k) (h : ∀ n ∈ (DataW.slice elems spare).weights P t, n ≤ B) :
    (elems.length + spare.length) * k ≤ B ∧ ∀ d ∈ elems, ∀ n ∈ d.weights P e, n ≤ B := by
  unfold DataW.weights at h
  rw [ht] at h
  simp only at h
  rw [hk] at h
  exact ⟨h _ (List.mem_cons_self ..), weightsAll_le fun n hn => h n (List.mem_cons_of_mem _ (List.mem_append_left _ hn))⟩
theorem weight_agg {t : TypeId} {fs : Array Field} {parts : List (DataW H)} (ht : P.underlying t = some (.struct fs)) (h : ∀ n ∈ (DataW.agg parts).weights P t, n ≤ B) (j : Nat) (f : Field) (d : DataW H) (hf : fs[j]? = some f) (hd : parts[j]? = some d) :
    ∀ n ∈ d.weights P f.type, n ≤ B := by
  unfold DataW.weights at h
  rw [ht] at h
  exact weightsEach_le h j f.type d (by simp [hf]) hd
end
theorem one_u8 : Try.prog.cellsOf 5 = 1 := by kernel_rfl
theorem one_sb : Try.prog.cellsOf 30 = 1 := by kernel_rfl
section
variable {H : Type} {enc : TypeId × Value → H} {W : World}
set_option maxRecDepth 100000 in
/-- Bytes that came in, by the fuel of their reading. -/
theorem open_ent {fuel : Nat} {v : Value} {d : DataW H} {p : List MemPlace} (hf : DataW.trod enc Try.prog W 0 (fun _ => true) true fuel 30 [v] = some (d, p)) (hB : ∀ n ∈ d.weights Try.prog 30, n ≤ reachBytes) :
    ∃ A l c, v = .slice A l.length c ∧ l.length ≤ c ∧ c ≤ reachBytes ∧ Cells W A (bv l) := by
  rcases open_ints Try.underlying30 Try.underlying5 one_u8 hf with ⟨hcs, hx⟩ | ⟨a, len, cap, zs, hcs, _, hl, hm, hz, hx, hcell, hwz⟩
  · simp only [List.cons.injEq, and_true] at hcs
    subst hcs
    exact ⟨none, [], 0, rfl, Nat.le_refl _, Nat.zero_le _, Cells.nil _ _⟩
  · simp only [List.cons.injEq, and_true] at hcs
    subst hcs
    simp only [if_true] at hz
    injection hx with hx1 hx2
    subst hx1
    obtain ⟨hw, -⟩ := weight_slice Try.underlying30 (show Try.prog.bytesOf 5 = 1 by kernel_rfl) hB
    have hlits : ∀ l : List Int, (lits .u8 l : List (DataW H)).length = l.length := fun l => by simp [lits]
    rw [hlits, hlits, List.length_take, List.length_drop] at hw
    have hlen : ((zs.take len).map fun n => UInt8.ofNat n.toNat).length = len := by simp; omega
    refine ⟨some a, (zs.take len).map fun n => UInt8.ofNat n.toNat, cap, by rw [hlen], by rw [hlen]; exact hl, by omega, ?_⟩
    intro hn
    refine ⟨a, rfl, fun j u hj => ?_⟩
    have hjl : j < len := by
      have := (List.getElem?_eq_some_iff.1 hj).1
      rw [bv_length, hlen] at this
      exact this
    have hjz : j < zs.length := by omega
    have hc := hcell j hjz
    rw [List.getD_eq_getElem?_getD, List.getElem?_eq_getElem hjz] at hc
    have hb := bounds_u8 (hwz _ (List.getElem_mem hjz))
    rw [hc]
    have hu : u = .int .u8 zs[j] := by
      rw [bv, List.getElem?_map, List.getElem?_map, List.getElem?_take, if_pos hjl, List.getElem?_eq_getElem hjz] at hj
      simp only [Option.map_some, Option.some.injEq] at hj
      rw [← hj, UInt8.toNat_ofNat']
      congr 1
      have : ((zs[j].toNat % 2 ^ 8 : Nat) : Int) = zs[j] := by omega
      exact this
    rw [hu]
    rfl
set_option maxRecDepth 100000 in
/-- Entries that came in. -/
theorem open_ents {fuel : Nat} {v : Value} {d : DataW H} {p : List MemPlace} (hf : DataW.trod enc Try.prog W 0 (fun _ => true) true fuel 25 [v] = some (d, p)) (hB : ∀ n ∈ d.weights Try.prog 25, n ≤ reachBytes) :
    ∃ A es us c, v = .slice A (es : List (List UInt8)).length c ∧ Cells W A us ∧ EntC W us es ∧ es.length ≤ reachBytes ∧ ∀ e ∈ es, e.length ≤ reachBytes := by
  rcases open_slice Try.underlying25 hf with ⟨hcs, -⟩ | ⟨a, len, cap, m, n, D, Pl, hcs, -, hl, hm, hmm, hx, hi⟩
  · simp only [List.cons.injEq, and_true] at hcs
    subst hcs
    exact ⟨none, [], [], 0, rfl, Cells.nil _ _, ⟨rfl, fun k hk => by simp at hk⟩, Nat.zero_le _, fun e he => by cases he⟩
  · simp only [List.cons.injEq, and_true] at hcs
    subst hcs
    simp only [if_true] at hmm
    subst hmm
    injection hx with hx1 hx2
    subst hx1
    obtain ⟨hw, hwe⟩ := weight_slice Try.underlying25 (show Try.prog.bytesOf 30 = 24 by kernel_rfl) hB
    rw [one_sb] at hi
    have hex : ∀ i, i < len → ∃ y : Value × List UInt8, W.cell? (a.add i) = some y.1 ∧ ∃ A c, y.1 = .slice A y.2.length c ∧ y.2.length ≤ c ∧ c ≤ reachBytes ∧ Cells W A (bv y.2) := by
      intro i him
      obtain ⟨cs', hc, ht⟩ := hi i (by omega)
      rw [Nat.mul_one] at hc
      obtain ⟨_, hcl, hat⟩ := World.cells?_some hc
      obtain ⟨u, rfl⟩ : ∃ u, cs' = [u] := by
        match cs', hcl with
        | [u], _ => exact ⟨u, rfl⟩
      have hc0 := hat 0 (by decide)
      have hwd : ∀ n ∈ (D i).weights Try.prog 30, n ≤ reachBytes := hwe (D i) (List.mem_map.2 ⟨i, List.mem_range.2 him, rfl⟩)
      obtain ⟨A, l, c, rfl, h1, h2, h3⟩ := open_ent ht hwd
      refine ⟨(.slice A l.length c, l), ?_, A, c, rfl, h1, h2, h3⟩
      have e0 : (a.add i).add 0 = a.add i := by unfold Addr.add; simp
      rw [e0] at hc0
      simpa using hc0
    obtain ⟨ys, rfl, hp⟩ := list_of hex
    refine ⟨some a, ys.map Prod.snd, ys.map Prod.fst, _, by rw [List.length_map], ?_, ⟨by rw [List.length_map, List.length_map], fun k hk => ?_⟩, by rw [List.length_map]; simp at hw; omega, fun e he => ?_⟩
    · intro _
      refine ⟨a, rfl, fun j u hj => ?_⟩
      rw [List.getElem?_map] at hj
      have hjl : j < ys.length := by
        cases h : ys[j]? with
        | none => rw [h] at hj; cases hj
        | some y => exact (List.getElem?_eq_some_iff.1 h).1
      rw [List.getElem?_eq_getElem hjl] at hj
      injection hj with hj
      rw [← hj]
      exact (hp j hjl).1
    · rw [List.length_map] at hk
      obtain ⟨-, A, c, h1, h2, h3, h4⟩ := hp k hk
      refine ⟨A, c, ?_, ?_, ?_⟩
      · rw [List.getElem?_map, List.getElem?_eq_getElem hk, List.getElem_map, ← h1]; rfl
      · rw [List.getElem_map]; exact h2
      · rw [List.getElem_map]; exact h4
    · obtain ⟨y, hy, rfl⟩ := List.mem_map.1 he
      obtain ⟨i, hi2, rfl⟩ := List.getElem_of_mem hy
      obtain ⟨-, A, c, -, h2, h3, -⟩ := hp i hi2
      exact Nat.le_trans h2 h3
set_option maxRecDepth 100000 in
theorem open_turns {base : Nat} {v : Value} {d : DataW H} {p : List MemPlace} (hval : Value.okWide Try.prog W .any base 38 v) (h : DataW.Trod enc Try.prog W 0 (fun _ => true) true 38 v d p) (hB : ∀ n ∈ d.weights Try.prog 38, n ≤ reachBytes) :
    ∃ A l c, v = .slice A l.length c ∧ TurnsIn W A l ∧ ∀ x ∈ l, TurnT.Ok x := by
  obtain ⟨A, len, cap, rfl⟩ := okWide_slice Try.underlying38 hval
  obtain ⟨fuel, hf⟩ := h
  have hrb : reachBytes ≤ 1000000000000000 := by decide
  rcases open_slice_fields Try.underlying38 Try.underlying41 (by kernel_rfl) (by kernel_rfl) hf with ⟨hcs, -⟩ | ⟨a, len', cap', m, D, Pl, hcs, -, hl, hm, hmm, hx, hi⟩
  · have hcs' : [Value.slice A len cap] = [.slice none 0 0] := hcs
    simp only [List.cons.injEq, Value.slice.injEq, and_true] at hcs'
    obtain ⟨rfl, rfl, rfl⟩ := hcs'
    exact ⟨none, [], 0, rfl, (fun i hi => absurd hi (by simp)), fun y hy => by cases hy⟩
  · have hcs' : [Value.slice A len cap] = [.slice (some a) len' cap'] := hcs
    simp only [List.cons.injEq, Value.slice.injEq, and_true] at hcs'
    obtain ⟨rfl, rfl, rfl⟩ := hcs'
    simp only [if_true] at hmm
    subst hmm
    injection hx with hx1 hx2
    subst hx1
    obtain ⟨hw, hwe⟩ := weight_slice Try.underlying38 (show Try.prog.bytesOf 41 = 40 by kernel_rfl) hB
    have hex : ∀ i, i < len → ∃ y : TurnT, TurnAt W a i y ∧ TurnT.Ok y := by
      intro i him
      obtain ⟨ys, n, hD, -, -, hf⟩ := hi i (by omega)
      have hwd : ∀ n ∈ (D i).weights Try.prog 41, n ≤ reachBytes := hwe (D i) (List.mem_map.2 ⟨i, List.mem_range.2 him, rfl⟩)
      rw [hD] at hwd
      obtain ⟨v0, y0, hc0, g0, ht0⟩ := hf 0 _ rfl
      obtain ⟨v1, y1, hc1, -, ht1⟩ := hf 1 _ rfl
      obtain ⟨v2, y2, hc2, -, ht2⟩ := hf 2 _ rfl
      have hw0 := weight_agg Try.underlying41 hwd 0 _ y0.1 rfl (by rw [List.getElem?_map, g0]; rfl)
      obtain ⟨A0, es, us, c0, rfl, hcl, hev, hml, hsl⟩ := open_ents (d := y0.1) (p := y0.2) ht0 hw0
      obtain ⟨n1, e1, -, z1⟩ := DataW.trod_int Try.underlying3 ht1
      obtain ⟨n2, e2, -, z2⟩ := DataW.trod_int Try.underlying32 ht2
      simp only [List.cons.injEq, and_true] at e1 e2
      subst e1; subst e2
      have b1 := bounds_i64 z1
      have b2 := bounds_u64 z2
      obtain ⟨k2, rfl⟩ : ∃ k : Nat, n2 = k := ⟨n2.toNat, by omega⟩
      refine ⟨⟨es, n1, k2⟩, ⟨A0, us, c0, ?_, hc1, hc2, hcl, hev⟩, ⟨by show n1 < _; omega, by show k2 < _; omega, Nat.le_trans hml hrb, fun e he => Nat.le_trans (hsl e he) hrb⟩⟩
      have h9 := hc0
      rw [Nat.add_zero] at h9
      exact h9
    obtain ⟨l, rfl, hp⟩ := list_of hex
    refine ⟨some a, l, _, rfl, fun i hi => ⟨a, rfl, (hp i hi).1⟩, fun y hy => ?_⟩
    obtain ⟨i, hi, rfl⟩ := List.getElem_of_mem hy
    exact (hp i hi).2
end
set_option maxRecDepth 100000 in
theorem logWhole_lifted (os : Os) (started : os.Started) (H : Type) (enc : TypeId × Value → H) :
    ReturnsInHanded {} Try.checked os 4 .any (Rows.logWholeSpec.pre6 enc Try.prog Try.f4 Rows.logWholeRow.domain false) (Rows.logWholeSpec.post enc Try.prog Try.f4 false true false false) := by
  refine returnsInHanded_of_change_sized (C := Try.checked) own started (by kernel_rfl) Try.func4
    (ChangeSpec.witness6 (enc := enc) (C := Try.checked) false ⟨#[], #[.slice none 0 0], []⟩ 8 (by kernel_rfl) (by kernel_rfl) (by kernel_rfl) (by kernel_rfl)) ?_
  intro W base args ds gs before hval0 hW _ hz0 _
  have hval : ∀ (j : Nat) t v, Try.f4.params[j]? = some t → args[j]? = some v → Value.okWide Try.prog W .any base t v := hval0
  have hz1 : ∀ n ∈ DataW.weightsEach Try.prog (Try.f4.params.toList ++ Rows.logWholeSpec.plain.varTypes Try.prog) (ds ++ gs), n ≤ reachBytes := fun n hn => of_decide_eq_true (List.all_eq_true.1 hz0 n hn)
  have hW' := hW
  obtain ⟨p, q, hA0, hV, rfl, _, _⟩ := hW
  have hA : DataW.TrodAll enc Try.prog W 0 (fun _ => true) true Try.f4.params.toList args.toList ds p := hA0
  rw [Try.params4] at hA hval
  obtain ⟨v0, vs0, d0, ds0, p0, q0, hargs, rfl, rfl, h0, r0⟩ := trodAll_cons hA
  obtain ⟨rfl, rfl, rfl⟩ := trodAll_nil r0
  obtain rfl : args = #[v0] := by cases args; simp_all
  obtain ⟨rfl, rfl⟩ := trodVars_none hV
  have z0 := weightsEach_le hz1 0 38 d0 rfl rfl
  obtain ⟨A0, a0, c0, rfl, hcell0, hw0⟩ := open_turns (hval 0 38 v0 rfl rfl) h0 z0
  refine (whole_walk hcell0 hw0).mono fun e W' ⟨he, hb⟩ => ?_
  subst he
  refine ⟨_, rfl, post_true hW' rfl ?_ rfl rfl hb⟩
  rw [Try.params4]
  intro t ht
  have ht2 : t ∈ [38] := ht
  simp only [List.mem_cons, List.not_mem_nil, or_false] at ht2
  subst ht2
  exact ⟨by kernel_rfl, of_decide_eq_true (by kernel_rfl)⟩

theorem logWhole_holds : Rows.LogWholeSaid :=
  OpenClaim.holds_of_wide 4 Try.f4 rfl rfl rfl rfl rfl rfl rfl ⟨rfl, rfl, rfl, rfl, rfl⟩ rfl rfl rfl rfl rfl (by kernel_rfl) Try.func4 (by kernel_rfl)
    (of_decide_eq_true (by kernel_rfl)) (by unfold Func.isWrapper; first | (rw [if_pos (by decide +kernel)]; kernel_rfl) | (rw [if_neg (by decide +kernel)]; exact ⟨rfl, rfl⟩))
    (fun os started H enc _ => logWhole_lifted os started H enc)
#print axioms logWhole_holds
end Go.Proofs.Ytladknjmoahdoaa
