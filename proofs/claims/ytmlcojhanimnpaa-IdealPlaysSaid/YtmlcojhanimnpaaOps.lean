/- Calls and legs that came in as arguments: what their cells hold. -/
import Derived.Test.YtmlcojhanimnpaaTold
import Derived.Deep.Slices
import Derived.Deep.Fields
import Derived.ChangeSame
import Derived.ChangeArms
import Derived.OpenShut
namespace Go.Proofs.Ytmlcojhanimnpaa
open Go.RowKit Go.ChangeShapes Go.WideShapes Go.Deep

section
variable {H : Type} {enc : TypeId × Value → H} {P : Program} {w : World} {base : Nat} {spare : Nat → Bool} {held : Bool}
theorem open_slice_fields {t e : TypeId} {fs : Array Field} {fuel : Nat} {cs : List Value} {x : DataW H × List MemPlace} (ht : P.underlying t = some (.slice e)) (he : P.underlying e = some (.struct fs))
    (hone : oneCellFields P fs = true) (hC : P.cellsOf e = fs.size) (h : DataW.trod enc P w base spare held fuel t cs = some x) :
    (cs = [.slice none 0 0] ∧ x = (.nil, [])) ∨
    ∃ (a : Addr) (len cap m : Nat) (D : Nat → DataW H) (Pl : Nat → List MemPlace), cs = [.slice (some a) len cap] ∧ base ≤ a.block ∧ len ≤ cap ∧ cap ≤ maxLen ∧ m = (if spare a.block then cap else len) ∧
      x = (.slice ((List.range len).map D) ((List.range (m - len)).map fun j => D (len + j)), MemPlace.row a (m * fs.size) ++ (List.range m).flatMap Pl) ∧
      ∀ i, i < m → ∃ (ys : List (DataW H × List MemPlace)) (n : Nat), D i = .agg (ys.map (·.1)) ∧ Pl i = ys.flatMap (·.2) ∧ ys.length = fs.size ∧
        ∀ (j : Nat) (f : Field), fs[j]? = some f → ∃ (v : Value) (y : DataW H × List MemPlace), w.cell? (a.add (i * fs.size + j)) = some v ∧ ys[j]? = some y ∧ DataW.trod enc P w base spare held n f.type [v] = some y := by
  rcases open_slice ht h with h0 | ⟨a, len, cap, m, n, D, Pl, hcs, hb, hl, hm, hmm, hx, hi⟩
  · exact .inl h0
  · refine .inr ⟨a, len, cap, m, D, Pl, hcs, hb, hl, hm, hmm, by rw [hC] at hx; exact hx, fun i him => ?_⟩
    obtain ⟨cs', hc, ht'⟩ := hi i him
    rw [hC] at hc
    obtain ⟨ys, n', hn', hy, hlen, hyl, hf⟩ := DataW.trod_struct he ht'
    obtain ⟨_, hcl, hat⟩ := World.cells?_some hc
    simp only [Prod.mk.injEq] at hy
    refine ⟨ys, n', hy.1, hy.2, hyl, fun j f hj => ?_⟩
    obtain ⟨ho, hk⟩ := hone_of hone j f hj
    have hjl : j < fs.size := (Array.getElem?_eq_some_iff.1 hj).1
    have hcell := hat j hjl
    have hv : cs'[j]? = some (cs'[j]'(by omega)) := List.getElem?_eq_getElem (by omega)
    have h1 := hf j f hj
    rw [ho, hk] at h1
    have hone' : (cs'.drop j).take 1 = [cs'[j]'(by omega)] := by
      rw [List.drop_eq_getElem_cons (by omega)]
      rfl
    rw [hone'] at h1
    have hys : ys[j]? = some (ys[j]'(by omega)) := List.getElem?_eq_getElem (by omega)
    refine ⟨_, _, ?_, hys, h1.trans hys⟩
    rw [← Go.Deep.add_add, hcell, hv]
end
theorem list_of {α : Type} {n : Nat} {P : Nat → α → Prop} (h : ∀ i, i < n → ∃ x, P i x) : ∃ l : List α, l.length = n ∧ ∀ i (hi : i < l.length), P i l[i] := by
  induction n with
  | zero => exact ⟨[], rfl, fun i hi => absurd hi (by simp)⟩
  | succ n ih =>
    obtain ⟨l, hl, hp⟩ := ih fun i hi => h i (by omega)
    obtain ⟨x, hx⟩ := h n (by omega)
    refine ⟨l ++ [x], by simp [hl], fun i hi => ?_⟩
    by_cases e : i < l.length
    · rw [List.getElem_append_left e]; exact hp i e
    · have : i = n := by simp at hi; omega
      subst this
      rw [List.getElem_append_right (by omega)]
      simp [hl]; exact hx
/-- Legs, by their cells one at a time. -/
theorem legsIn_of {w : World} {a : Addr} {l : List Leg} (h : ∀ i (hi : i < l.length), w.cell? (a.add (i * 3)) = some (.string l[i].ch) ∧ w.cell? (a.add (i * 3 + 1)) = some (.string l[i].src) ∧ w.cell? (a.add (i * 3 + 2)) = some (.int .i64 l[i].amt)) : LegsIn w (some a) l := fun _ => by
  refine ⟨a, rfl, fun j u hj => ?_⟩
  have hlt := (List.getElem?_eq_some_iff.1 hj).1
  rw [legsC_len] at hlt
  have hk : j / 3 < l.length := by omega
  obtain ⟨h0, h1, h2⟩ := h (j / 3) hk
  obtain ⟨g0, g1, g2⟩ := legsC_at l (j / 3) hk
  rcases (show j % 3 = 0 ∨ j % 3 = 1 ∨ j % 3 = 2 by omega) with e | e | e
  · rw [show j = j / 3 * 3 by omega] at hj ⊢; rw [g0] at hj; rw [h0]; exact hj
  · rw [show j = j / 3 * 3 + 1 by omega] at hj ⊢; rw [g1] at hj; rw [h1]; exact hj
  · rw [show j = j / 3 * 3 + 2 by omega] at hj ⊢; rw [g2] at hj; rw [h2]; exact hj
/-- Legs' names are not longer than what is read may be; amounts are numbers of 64 bits. -/
def LegWf (x : Leg) : Prop := x.ch.size ≤ reachBytes ∧ x.src.size ≤ reachBytes ∧ -9223372036854775808 ≤ x.amt ∧ x.amt ≤ 9223372036854775807
section
variable {H : Type} {P : Program} {B : Nat}
theorem weightsAll_le {e : TypeId} : ∀ {l : List (DataW H)}, (∀ n ∈ DataW.weightsAll P e l, n ≤ B) → ∀ d ∈ l, ∀ n ∈ d.weights P e, n ≤ B
  | [], _, d, hd => by cases hd
  | y :: r, h, d, hd => by
    intro n hn
    rcases List.mem_cons.1 hd with rfl | hd
    · exact h n (by unfold DataW.weightsAll; exact List.mem_append_left _ hn)
    · exact weightsAll_le (l := r) (fun m hm => h m (by unfold DataW.weightsAll; exact List.mem_append_right _ hm)) d hd n hn
theorem weightsEach_le : ∀ {ts : List TypeId} {l : List (DataW H)}, (∀ n ∈ DataW.weightsEach P ts l, n ≤ B) → ∀ (j : Nat) (t : TypeId) (d : DataW H), ts[j]? = some t → l[j]? = some d → ∀ n ∈ d.weights P t, n ≤ B
  | [], _, _, j, t, d, ht, _ => by simp at ht
  | _ :: _, [], _, j, t, d, _, hd => by simp at hd
  | u :: ts, y :: r, h, 0, t, d, ht, hd => by
    intro n hn
    have e1 : u = t := by simpa using ht
    have e2 : y = d := by simpa using hd
    subst e1; subst e2
    exact h n (by unfold DataW.weightsEach; exact List.mem_append_left _ hn)
  | u :: ts, y :: r, h, j + 1, t, d, ht, hd => weightsEach_le (ts := ts) (l := r) (fun m hm => h m (by unfold DataW.weightsEach; exact List.mem_append_right _ hm)) j t d (by simpa using ht) (by simpa using hd)
theorem weight_string {t : TypeId} {s : ByteArray} (h : ∀ n ∈ (DataW.lit (.string s.data.toList) : DataW H).weights P t, n ≤ B) : s.size ≤ B := by
  have := h s.data.toList.length (by simp [DataW.weights])
  simpa using this
theorem weight_slice {t e : TypeId} {k : Nat} {elems spare : List (DataW H)} (ht : P.underlying t = some (.slice e)) (hk : P.bytesOf e = k) (h : ∀ n ∈ (DataW.slice elems spare).weights P t, n ≤ B) :
    (elems.length + spare.length) * k ≤ B ∧ ∀ d ∈ elems, ∀ n ∈ d.weights P e, n ≤ B := by
  unfold DataW.weights at h
  rw [ht] at h
  simp only at h
  rw [hk] at h
  exact ⟨h _ (List.mem_cons_self ..), weightsAll_le fun n hn => h n (List.mem_cons_of_mem _ (List.mem_append_left _ hn))⟩
theorem weight_agg {t : TypeId} {fs : Array Field} {parts : List (DataW H)} (ht : P.underlying t = some (.struct fs)) (h : ∀ n ∈ (DataW.agg parts).weights P t, n ≤ B) (j : Nat) (f : Field) (d : DataW H) (hf : fs[j]? = some f) (hd : parts[j]? = some d) :
    ∀ n ∈ d.weights P f.type, n ≤ B := by
  unfold DataW.weights at h
  rw [ht] at h
  exact weightsEach_le h j f.type d (by simp [hf]) hd
end
/-- Calls that came in. -/
def OpAt (w : World) (ad : Addr) (i : Nat) (x : OpR) : Prop :=
  ∃ B c, w.cell? (ad.add (i * 8)) = some (.int .u8 x.kind) ∧ w.cell? (ad.add (i * 8 + 1)) = some (.string x.name) ∧ w.cell? (ad.add (i * 8 + 2)) = some (.string x.a) ∧ w.cell? (ad.add (i * 8 + 3)) = some (.string x.b) ∧
    w.cell? (ad.add (i * 8 + 4)) = some (.int .i64 x.n) ∧ w.cell? (ad.add (i * 8 + 5)) = some (.int .i64 x.p) ∧ w.cell? (ad.add (i * 8 + 6)) = some (.int .i64 x.c) ∧ w.cell? (ad.add (i * 8 + 7)) = some (.slice B x.legs.length c) ∧ LegsIn w B x.legs
structure OpWf (x : OpR) : Prop where
  k0 : 0 ≤ x.kind
  k1 : x.kind ≤ 255
  name : x.name.size ≤ reachBytes
  a : x.a.size ≤ reachBytes
  b : x.b.size ≤ reachBytes
  len : x.legs.length ≤ reachBytes
  n0 : -9223372036854775808 ≤ x.n
  n1 : x.n ≤ 9223372036854775807
  legs : ∀ y ∈ x.legs, LegWf y
def OpsIn (w : World) (A : Option Addr) (l : List OpR) : Prop := ∀ i (hi : i < l.length), ∃ ad, A = some ad ∧ OpAt w ad i l[i]
theorem OpAt.below {w w' : World} {ad : Addr} {i : Nat} {x : OpR} (h : OpAt w ad i x) (hb : Below w.heap.size w w') : OpAt w' ad i x := by
  obtain ⟨B, c, h0, h1, h2, h3, h4, h5, h6, h7, h8⟩ := h
  exact ⟨B, c, cell_below hb h0, cell_below hb h1, cell_below hb h2, cell_below hb h3, cell_below hb h4, cell_below hb h5, cell_below hb h6, cell_below hb h7, Cells.below h8 hb⟩
theorem OpsIn.below {w w' : World} {A : Option Addr} {l : List OpR} (h : OpsIn w A l) (hb : Below w.heap.size w w') : OpsIn w' A l := fun i hi => by
  obtain ⟨ad, e, h1⟩ := h i hi
  exact ⟨ad, e, h1.below hb⟩
section
variable {H : Type} {enc : TypeId × Value → H} {W : World} {base : Nat} {held : Bool}
set_option maxRecDepth 100000 in
theorem trod_legs {fuel : Nat} {A : Option Addr} {len cap : Nat} {x : DataW H × List MemPlace} (h : DataW.trod enc Try.prog W base (fun _ => true) held fuel 23 [.slice A len cap] = some x) (hB : ∀ n ∈ x.1.weights Try.prog 23, n ≤ reachBytes) :
    ∃ l : List Leg, l.length = len ∧ LegsIn W A l ∧ len ≤ reachBytes ∧ ∀ y ∈ l, LegWf y := by
  rcases open_slice_fields Try.underlying23 Try.underlying45 (by kernel_rfl) (by kernel_rfl) h with ⟨hcs, -⟩ | ⟨a, len', cap', m, D, Pl, hcs, -, hl, hm, hmm, hx, hi⟩
  · simp only [List.cons.injEq, Value.slice.injEq, and_true] at hcs
    obtain ⟨rfl, rfl, rfl⟩ := hcs
    exact ⟨[], rfl, Cells.nil _ _, Nat.zero_le _, fun y hy => by cases hy⟩
  · simp only [List.cons.injEq, Value.slice.injEq, and_true] at hcs
    obtain ⟨rfl, rfl, rfl⟩ := hcs
    simp only [if_true] at hmm
    subst hmm
    rw [hx] at hB
    obtain ⟨hw, hwe⟩ := weight_slice Try.underlying23 (show Try.prog.bytesOf 45 = 40 by kernel_rfl) hB
    have hex : ∀ i, i < len → ∃ y : Leg, (W.cell? (a.add (i * 3)) = some (.string y.ch) ∧ W.cell? (a.add (i * 3 + 1)) = some (.string y.src) ∧ W.cell? (a.add (i * 3 + 2)) = some (.int .i64 y.amt)) ∧ LegWf y := by
      intro i him
      obtain ⟨ys, n, hD, -, -, hf⟩ := hi i (by omega)
      have hwi := hwe (D i) (List.mem_map.2 ⟨i, List.mem_range.2 him, rfl⟩)
      rw [hD] at hwi
      have hwj := weight_agg (fs := _) Try.underlying45 hwi
      obtain ⟨v0, y0, hc0, g0, ht0⟩ := hf 0 _ rfl
      obtain ⟨v1, y1, hc1, g1, ht1⟩ := hf 1 _ rfl
      obtain ⟨v2, y2, hc2, -, ht2⟩ := hf 2 _ rfl
      have w0 := hwj 0 _ y0.1 rfl (by rw [List.getElem?_map, g0]; rfl)
      have w1 := hwj 1 _ y1.1 rfl (by rw [List.getElem?_map, g1]; rfl)
      obtain ⟨s0, e0, rfl, -⟩ := DataW.trod_string Try.underlying9 ht0
      obtain ⟨s1, e1, rfl, -⟩ := DataW.trod_string Try.underlying9 ht1
      obtain ⟨n2, e2, -, z2⟩ := DataW.trod_int Try.underlying2 ht2
      simp only [List.cons.injEq, and_true] at e0 e1 e2
      subst e0; subst e1; subst e2
      have := bounds_i64 z2
      exact ⟨⟨s0, s1, n2⟩, ⟨hc0, hc1, hc2⟩, weight_string w0, weight_string w1, this.1, this.2⟩
    obtain ⟨l, hl2, hp⟩ := list_of hex
    refine ⟨l, hl2, legsIn_of fun i hi => (hp i hi).1, by simp at hw; omega, fun y hy => ?_⟩
    obtain ⟨i, hi, rfl⟩ := List.getElem_of_mem hy
    exact (hp i hi).2
set_option maxRecDepth 100000 in
theorem open_legs {v : Value} {d : DataW H} {p : List MemPlace} (hval : Value.okWide Try.prog W .any base 23 v) (h : DataW.Trod enc Try.prog W 0 (fun _ => true) true 23 v d p) (hB : ∀ n ∈ d.weights Try.prog 23, n ≤ reachBytes) :
    ∃ A l c, v = .slice A l.length c ∧ LegsIn W A l ∧ l.length ≤ reachBytes ∧ ∀ y ∈ l, LegWf y := by
  obtain ⟨A, len, cap, rfl⟩ := okWide_slice Try.underlying23 hval
  obtain ⟨fuel, hf⟩ := h
  obtain ⟨l, rfl, h1, h2, h3⟩ := trod_legs hf hB
  exact ⟨A, l, cap, rfl, h1, h2, h3⟩
set_option maxRecDepth 100000 in
theorem open_ops {v : Value} {d : DataW H} {p : List MemPlace} (hval : Value.okWide Try.prog W .any base 22 v) (h : DataW.Trod enc Try.prog W 0 (fun _ => true) true 22 v d p) (hB : ∀ n ∈ d.weights Try.prog 22, n ≤ reachBytes) :
    ∃ A l c, v = .slice A l.length c ∧ OpsIn W A l ∧ l.length ≤ reachBytes ∧ ∀ x ∈ l, OpWf x := by
  obtain ⟨A, len, cap, rfl⟩ := okWide_slice Try.underlying22 hval
  obtain ⟨fuel, hf⟩ := h
  rcases open_slice_fields Try.underlying22 Try.underlying26 (by kernel_rfl) (by kernel_rfl) hf with ⟨hcs, -⟩ | ⟨a, len', cap', m, D, Pl, hcs, -, hl, hm, hmm, hx, hi⟩
  · have hcs' : [Value.slice A len cap] = [.slice none 0 0] := hcs
    simp only [List.cons.injEq, Value.slice.injEq, and_true] at hcs'
    obtain ⟨rfl, rfl, rfl⟩ := hcs'
    exact ⟨none, [], 0, rfl, (fun i hi => absurd hi (by simp)), Nat.zero_le _, fun y hy => by cases hy⟩
  · have hcs' : [Value.slice A len cap] = [.slice (some a) len' cap'] := hcs
    simp only [List.cons.injEq, Value.slice.injEq, and_true] at hcs'
    obtain ⟨rfl, rfl, rfl⟩ := hcs'
    simp only [if_true] at hmm
    subst hmm
    injection hx with hx1 hx2
    subst hx1
    obtain ⟨hw, hwe⟩ := weight_slice Try.underlying22 (show Try.prog.bytesOf 26 = 104 by kernel_rfl) hB
    have hex : ∀ i, i < len → ∃ y : OpR, OpAt W a i y ∧ OpWf y := by
      intro i him
      obtain ⟨ys, n, hD, -, -, hf⟩ := hi i (by omega)
      have hwi := hwe (D i) (List.mem_map.2 ⟨i, List.mem_range.2 him, rfl⟩)
      rw [hD] at hwi
      have hwj := weight_agg (fs := _) Try.underlying26 hwi
      obtain ⟨v0, y0, hc0, -, ht0⟩ := hf 0 _ rfl
      obtain ⟨v1, y1, hc1, g1, ht1⟩ := hf 1 _ rfl
      obtain ⟨v2, y2, hc2, g2, ht2⟩ := hf 2 _ rfl
      obtain ⟨v3, y3, hc3, g3, ht3⟩ := hf 3 _ rfl
      obtain ⟨v4, y4, hc4, -, ht4⟩ := hf 4 _ rfl
      obtain ⟨v5, y5, hc5, -, ht5⟩ := hf 5 _ rfl
      obtain ⟨v6, y6, hc6, -, ht6⟩ := hf 6 _ rfl
      obtain ⟨v7, y7, hc7, g7, ht7⟩ := hf 7 _ rfl
      have w1 := hwj 1 _ y1.1 rfl (by rw [List.getElem?_map, g1]; rfl)
      have w2 := hwj 2 _ y2.1 rfl (by rw [List.getElem?_map, g2]; rfl)
      have w3 := hwj 3 _ y3.1 rfl (by rw [List.getElem?_map, g3]; rfl)
      have w7 := hwj 7 _ y7.1 rfl (by rw [List.getElem?_map, g7]; rfl)
      obtain ⟨n0, e0, -, z0⟩ := DataW.trod_int Try.underlying5 ht0
      obtain ⟨s1, e1, rfl, -⟩ := DataW.trod_string Try.underlying9 ht1
      obtain ⟨s2, e2, rfl, -⟩ := DataW.trod_string Try.underlying9 ht2
      obtain ⟨s3, e3, rfl, -⟩ := DataW.trod_string Try.underlying9 ht3
      obtain ⟨n4, e4, -, z4⟩ := DataW.trod_int Try.underlying2 ht4
      obtain ⟨n5, e5, -, z5⟩ := DataW.trod_int Try.underlying2 ht5
      obtain ⟨n6, e6, -, z6⟩ := DataW.trod_int Try.underlying2 ht6
      simp only [List.cons.injEq, and_true] at e0 e1 e2 e3 e4 e5 e6
      subst e0; subst e1; subst e2; subst e3; subst e4; subst e5; subst e6
      have hsl : ∃ B len c, v7 = .slice B len c := by
        rcases open_slice_fields Try.underlying23 Try.underlying45 (by kernel_rfl) (by kernel_rfl) ht7 with ⟨hcs, -⟩ | ⟨a, len', cap', m, D, Pl, hcs, -⟩
        · simp only [List.cons.injEq, and_true] at hcs; exact ⟨_, _, _, hcs⟩
        · simp only [List.cons.injEq, and_true] at hcs; exact ⟨_, _, _, hcs⟩
      obtain ⟨B, ln, c, rfl⟩ := hsl
      obtain ⟨l, rfl, f1, f2, f3⟩ := trod_legs ht7 w7
      have b0 := bounds_u8 z0
      have b4 := bounds_i64 z4
      exact ⟨⟨n0, s1, s2, s3, n4, n5, n6, l⟩, ⟨B, c, hc0, hc1, hc2, hc3, hc4, hc5, hc6, hc7, f1⟩, ⟨b0.1, b0.2, weight_string w1, weight_string w2, weight_string w3, f2, b4.1, b4.2, f3⟩⟩
    obtain ⟨l, rfl, hp⟩ := list_of hex
    refine ⟨some a, l, _, rfl, fun i hi => ⟨a, rfl, (hp i hi).1⟩, by simp at hw; omega, fun y hy => ?_⟩
    obtain ⟨i, hi, rfl⟩ := List.getElem_of_mem hy
    exact (hp i hi).2
end
end Go.Proofs.Ytmlcojhanimnpaa
