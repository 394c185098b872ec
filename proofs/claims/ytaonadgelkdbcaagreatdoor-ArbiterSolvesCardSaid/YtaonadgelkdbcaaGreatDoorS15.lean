/- Arguments opened: weights, fields, rows of terms. · A transaction that came in, opened: its locks are finite trees. · The frame of the six laws' rows: what every law whose calls only lay new blocks shares. -/
import Derived.Test.YtaonadgelkdbcaaGreatDoorQ18
import Derived.Deep.Slices
import Derived.Deep.Fields
import Derived.ChangeSame
import Derived.ChangeArms
import Derived.OpenShut
import Derived.SliceStrings
import Derived.Lib.SmallJoins
import Derived.Test.YtaonadgelkdbcaaGreatDoorS13
import Derived.Test.YtaonadgelkdbcaaGreatDoorBase
import Derived.Test.YtaonadgelkdbcaaGreatDoorCards
import Derived.Test.YtaonadgelkdbcaaGreatDoorTie
import Derived.ProofKit
import Derived.Carry
import Derived.LaidMore
import Derived.Lay
import Derived.SevenTiedAt
import Derived.Stop.Joined
import Derived.Below
import Derived.ChangeMaps5
namespace Go.Proofs.YtaonadgelkdbcaaGreatDoor
open Go.RowKit Go.ChangeShapes Go.WideShapes Go.Deep

section
variable {H : Type} {enc : TypeId × Value → H} {P : Program} {w : World} {base : Nat} {spare : Nat → Bool} {held : Bool}
theorem open_slice_fields {t e : TypeId} {fs : Array Field} {fuel : Nat} {cs : List Value} {x : DataW H × List MemPlace} (ht : P.underlying t = some (.slice e)) (he : P.underlying e = some (.struct fs))
    (hone : oneCellFields P fs = true) (hC : P.cellsOf e = fs.size) (h : DataW.trod enc P w base spare held fuel t cs = some x) :
    (cs = [.slice none 0 0] ∧ x = (.nil, [])) ∨
    ∃ (a : Addr) (len cap m : Nat) (D : Nat → DataW H) (Pl : Nat → List MemPlace), cs = [.slice (some a) len cap] ∧ base ≤ a.block ∧ len ≤ cap ∧ cap ≤ maxLen ∧ m = (if spare a.block then cap else len) ∧
      x = (.slice ((List.range len).map D) ((List.range (m - len)).map fun j => D (len + j)), MemPlace.row a (m * fs.size) ++ (List.range m).flatMap Pl) ∧
      ∀ i, i < m → ∃ (ys : List (DataW H × List MemPlace)) (n : Nat), D i = .agg (ys.map (·.1)) ∧ Pl i = ys.flatMap (·.2) ∧ ys.length = fs.size ∧
        ∀ (j : Nat) (f : Field), fs[j]? = some f → ∃ (v : Value) (y : DataW H × List MemPlace), w.cell? (a.add (i * fs.size + j)) = some v ∧ ys[j]? = some y ∧ DataW.trod enc P w base spare held n f.type [v] = some y := by
  rcases open_slice ht h with h0 | ⟨a, len, cap, m, n, D, Pl, hcs, hb, hl, hm, hmm, hx, hi⟩
  · exact .inl h0
  · refine .inr ⟨a, len, cap, m, D, Pl, hcs, hb, hl, hm, hmm, by rw [hC] at hx; exact hx, fun i him => ?_⟩
    obtain ⟨cs', hc, ht'⟩ := hi i him
    rw [hC] at hc
    obtain ⟨ys, n', hn', hy, hlen, hyl, hf⟩ := DataW.trod_struct he ht'
    obtain ⟨_, hcl, hat⟩ := World.cells?_some hc
    simp only [Prod.mk.injEq] at hy
    refine ⟨ys, n', hy.1, hy.2, hyl, fun j f hj => ?_⟩
    obtain ⟨ho, hk⟩ := hone_of hone j f hj
    have hjl : j < fs.size := (Array.getElem?_eq_some_iff.1 hj).1
    have hcell := hat j hjl
    have hv : cs'[j]? = some (cs'[j]'(by omega)) := List.getElem?_eq_getElem (by omega)
    have h1 := hf j f hj
    rw [ho, hk] at h1
    have hone' : (cs'.drop j).take 1 = [cs'[j]'(by omega)] := by
      rw [List.drop_eq_getElem_cons (by omega)]
      rfl
    rw [hone'] at h1
    have hys : ys[j]? = some (ys[j]'(by omega)) := List.getElem?_eq_getElem (by omega)
    refine ⟨_, _, ?_, hys, h1.trans hys⟩
    rw [← Go.Deep.add_add, hcell, hv]
end
theorem list_of {α : Type} {n : Nat} {P : Nat → α → Prop} (h : ∀ i, i < n → ∃ x, P i x) : ∃ l : List α, l.length = n ∧ ∀ i (hi : i < l.length), P i l[i] := by
  induction n with
  | zero => exact ⟨[], rfl, fun i hi => absurd hi (by simp)⟩
  | succ n ih =>
    obtain ⟨l, hl, hp⟩ := ih fun i hi => h i (by omega)
    obtain ⟨x, hx⟩ := h n (by omega)
    refine ⟨l ++ [x], by simp [hl], fun i hi => ?_⟩
    by_cases e : i < l.length
    · rw [List.getElem_append_left e]; exact hp i e
    · have : i = n := by simp at hi; omega
      subst this
      rw [List.getElem_append_right (by omega)]
      simp [hl]; exact hx
section
variable {H : Type} {P : Program} {B : Nat}
theorem weightsAll_le {e : TypeId} : ∀ {l : List (DataW H)}, (∀ n ∈ DataW.weightsAll P e l, n ≤ B) → ∀ d ∈ l, ∀ n ∈ d.weights P e, n ≤ B
  | [], _, d, hd => by cases hd
  | y :: r, h, d, hd => by
    intro n hn
    rcases List.mem_cons.1 hd with rfl | hd
    · exact h n (by unfold DataW.weightsAll; exact List.mem_append_left _ hn)
    · exact weightsAll_le (l := r) (fun m hm => h m (by unfold DataW.weightsAll; exact List.mem_append_right _ hm)) d hd n hn
theorem weightsEach_le : ∀ {ts : List TypeId} {l : List (DataW H)}, (∀ n ∈ DataW.weightsEach P ts l, n ≤ B) → ∀ (j : Nat) (t : TypeId) (d : DataW H), ts[j]? = some t → l[j]? = some d → ∀ n ∈ d.weights P t, n ≤ B
  | [], _, _, j, t, d, ht, _ => by simp at ht
  | _ :: _, [], _, j, t, d, _, hd => by simp at hd
  | u :: ts, y :: r, h, 0, t, d, ht, hd => by
    intro n hn
    have e1 : u = t := by simpa using ht
    have e2 : y = d := by simpa using hd
    subst e1; subst e2
    exact h n (by unfold DataW.weightsEach; exact List.mem_append_left _ hn)
  | u :: ts, y :: r, h, j + 1, t, d, ht, hd => weightsEach_le (ts := ts) (l := r) (fun m hm => h m (by unfold DataW.weightsEach; exact List.mem_append_right _ hm)) j t d (by simpa using ht) (by simpa using hd)
theorem weight_string {t : TypeId} {s : ByteArray} (h : ∀ n ∈ (DataW.lit (.string s.data.toList) : DataW H).weights P t, n ≤ B) : s.size ≤ B := by
  have := h s.data.toList.length (by simp [DataW.weights])
  simpa using this
theorem weight_slice {t e : TypeId} {k : Nat} {elems spare : List (DataW H)} (ht : P.underlying t = some (.slice e)) (hk : P.bytesOf e = k) (h : ∀ n ∈ (DataW.slice elems spare).weights P t, n ≤ B) :
    (elems.length + spare.length) * k ≤ B ∧ ∀ d ∈ elems, ∀ n ∈ d.weights P e, n ≤ B := by
  unfold DataW.weights at h
  rw [ht] at h
  simp only at h
  rw [hk] at h
  exact ⟨h _ (List.mem_cons_self ..), weightsAll_le fun n hn => h n (List.mem_cons_of_mem _ (List.mem_append_left _ hn))⟩
theorem weight_agg {t : TypeId} {fs : Array Field} {parts : List (DataW H)} (ht : P.underlying t = some (.struct fs)) (h : ∀ n ∈ (DataW.agg parts).weights P t, n ≤ B) (j : Nat) (f : Field) (d : DataW H) (hf : fs[j]? = some f) (hd : parts[j]? = some d) :
    ∀ n ∈ d.weights P f.type, n ≤ B := by
  unfold DataW.weights at h
  rw [ht] at h
  exact weightsEach_le h j f.type d (by simp [hf]) hd
end
section
variable {H : Type} {enc : TypeId × Value → H} {W : World} {base : Nat}
set_option maxRecDepth 100000 in
theorem open_terms {v : Value} {d : DataW H} {p : List MemPlace} (hval : Value.okWide Tryz.prog W .any base 26 v) (h : DataW.Trod enc Tryz.prog W 0 (fun _ => true) true 26 v d p) (hB : ∀ n ∈ d.weights Tryz.prog 26, n ≤ reachBytes) :
    ∃ A l c, v = .slice A l.length c ∧ Cells W A (strs l) ∧ l.length ≤ reachBytes ∧ ∀ y ∈ l, y.size ≤ reachBytes := by
  obtain ⟨A, len, cap, rfl⟩ := okWide_slice Tryz.underlying26 hval
  obtain ⟨fuel, hf⟩ := h
  rcases open_slice1 Tryz.underlying26 (by kernel_rfl) hf with ⟨hcs, -⟩ | ⟨a, len', cap', m, n, V, D, Pl, hcs, -, hl, hm, hmm, hx, hi⟩
  · have hcs' : [Value.slice A len cap] = [.slice none 0 0] := hcs
    simp only [List.cons.injEq, Value.slice.injEq, and_true] at hcs'
    obtain ⟨rfl, rfl, rfl⟩ := hcs'
    exact ⟨none, [], 0, rfl, Cells.nil _ _, Nat.zero_le _, fun y hy => by cases hy⟩
  · have hcs' : [Value.slice A len cap] = [.slice (some a) len' cap'] := hcs
    simp only [List.cons.injEq, Value.slice.injEq, and_true] at hcs'
    obtain ⟨rfl, rfl, rfl⟩ := hcs'
    simp only [if_true] at hmm
    subst hmm
    injection hx with hx1 hx2
    subst hx1
    obtain ⟨hw, hwe⟩ := weight_slice Tryz.underlying26 (show Tryz.prog.bytesOf 29 = 16 by kernel_rfl) hB
    have hex : ∀ i, i < len → ∃ s : ByteArray, W.cell? (a.add i) = some (.string s) ∧ s.size ≤ reachBytes := by
      intro i him
      obtain ⟨hc, ht⟩ := hi i (by omega)
      have hwi := hwe (D i) (List.mem_map.2 ⟨i, List.mem_range.2 him, rfl⟩)
      obtain ⟨s, e, hy, -⟩ := DataW.trod_string Tryz.underlying29 ht
      simp only [List.cons.injEq, and_true] at e
      rw [e] at hc
      injection hy with hy1 hy2
      rw [hy1] at hwi
      exact ⟨s, hc, weight_string hwi⟩
    obtain ⟨l, hll, hp⟩ := list_of hex
    subst hll
    simp only [List.length_map, List.length_range] at hw
    refine ⟨some a, l, _, rfl, fun _ => ⟨a, rfl, fun j u hj => ?_⟩, by omega, fun y hy => ?_⟩
    · have hjl : j < l.length := by have := (List.getElem?_eq_some_iff.1 hj).1; simpa [strs] using this
      have hv : (strs l)[j]? = some (.string l[j]) := by unfold strs; rw [List.getElem?_map, List.getElem?_eq_getElem hjl]; rfl
      rw [hv] at hj
      injection hj with hj
      subst hj
      exact (hp j hjl).1
    · obtain ⟨k, hk, rfl⟩ := List.getElem_of_mem hy
      exact (hp k hk).2
end
end Go.Proofs.YtaonadgelkdbcaaGreatDoor

namespace Go.Proofs.YtaonadgelkdbcaaGreatDoor
open Go.RowKit Go.ChangeShapes Go.WideShapes Go.Deep

def Chunks {α : Type} (C : α → List Value → Prop) : List α → List Value → Prop
  | [], xs => xs = []
  | x :: r, xs => ∃ cs rest, xs = cs ++ rest ∧ C x cs ∧ Chunks C r rest
theorem chunk_cells {α : Type} {W : World} {K : Nat} {C : α → List Value → Prop} {a : Addr} : ∀ (l : List α) (off : Nat), (∀ i (hi : i < l.length), ∃ cs, C l[i] cs ∧ cs.length = K ∧ ∀ j, j < K → W.cell? (a.add ((off + i) * K + j)) = cs[j]?) →
    ∃ xs, Chunks C l xs ∧ ∀ j u, xs[j]? = some u → W.cell? (a.add (off * K + j)) = some u
  | [], off, _ => ⟨[], rfl, fun j u h => by simp at h⟩
  | x :: r, off, h => by
    obtain ⟨cs, h1, h2, h3⟩ := h 0 (by simp)
    obtain ⟨rest, g1, g2⟩ := chunk_cells r (off + 1) (fun i hi => by
      obtain ⟨ds, d1, d2, d3⟩ := h (i + 1) (by simpa using hi)
      exact ⟨ds, d1, d2, fun j hj => by rw [show off + 1 + i = off + (i + 1) by omega]; exact d3 j hj⟩)
    refine ⟨cs ++ rest, ⟨cs, rest, rfl, h1, g1⟩, fun j u hj => ?_⟩
    by_cases hjk : j < K
    · rw [List.getElem?_append_left (by omega)] at hj
      have := h3 j hjk
      rw [Nat.add_zero] at this
      rw [this]; exact hj
    · rw [List.getElem?_append_right (by omega), h2] at hj
      have := g2 (j - K) u hj
      rw [Nat.succ_mul, show off * K + K + (j - K) = off * K + j by omega] at this
      exact this
section
variable {H : Type} {enc : TypeId × Value → H} {W : World}
theorem open_rows {α : Type} {t e : TypeId} {K b : Nat} (ht : Tryz.prog.underlying t = some (.slice e)) (hK : Tryz.prog.cellsOf e = K) (hb : Tryz.prog.bytesOf e = b) (hb1 : 1 ≤ b) (C : α → List Value → Prop) (G : α → Prop) {fuel : Nat} {cs : List Value} {x : DataW H × List MemPlace}
    (hE : ∀ n, n < fuel → ∀ cs y, cs.length = K → DataW.trod enc Tryz.prog W 0 (fun _ => true) true n e cs = some y → (∀ k ∈ y.1.weights Tryz.prog e, k ≤ reachBytes) → ∃ x, C x cs ∧ G x)
    (h : DataW.trod enc Tryz.prog W 0 (fun _ => true) true fuel t cs = some x) (hB : ∀ k ∈ x.1.weights Tryz.prog t, k ≤ reachBytes) :
    ∃ A l c xs, cs = [.slice A (List.length l) c] ∧ Cells W A xs ∧ Chunks C l xs ∧ (∀ x ∈ l, G x) ∧ l.length ≤ reachBytes := by
  rcases DataW.trod_slice ht h with ⟨rfl, rfl⟩ | ⟨a, len, cap, elems, rest, n, hfu, rfl, rfl, -, hl, hm, hlen, hel, hsp, -⟩
  · exact ⟨none, [], 0, [], rfl, Cells.nil _ _, rfl, by simp, Nat.zero_le _⟩
  · obtain ⟨hw, hwe⟩ := weight_slice ht hb hB
    rw [hK] at hel
    have hex : ∀ i, i < len → ∃ x : α, ∃ cs, C x cs ∧ cs.length = K ∧ (∀ j, j < K → W.cell? (a.add ((0 + i) * K + j)) = cs[j]?) ∧ G x := by
      intro i hi
      have key := hel i hi
      have hie : i < elems.length := by omega
      rw [List.getElem?_eq_getElem hie] at key
      obtain ⟨cs', h1, h2⟩ := Option.bind_eq_some_iff.1 key
      obtain ⟨_, hcl, hat⟩ := World.cells?_some h1
      obtain ⟨x, g1, g2⟩ := hE n (by omega) cs' _ hcl h2 (hwe _ (List.mem_map.2 ⟨_, List.getElem_mem hie, rfl⟩))
      refine ⟨x, cs', g1, hcl, fun j hj => ?_, g2⟩
      have := hat j hj
      rw [Nat.zero_add, ← Go.Deep.add_add]
      exact this
    obtain ⟨l, hll, hp⟩ := list_of hex
    obtain ⟨xs, k1, k2⟩ := chunk_cells (C := C) (W := W) (a := a) l 0 (fun i hi => by
      obtain ⟨cs, c1, c2, c3, -⟩ := hp i hi
      exact ⟨cs, c1, c2, c3⟩)
    subst hll
    refine ⟨some a, l, cap, xs, rfl, fun _ => ⟨a, rfl, fun j u hj => ?_⟩, k1, fun y hy => ?_, ?_⟩
    · have := k2 j u hj
      rwa [Nat.zero_mul, Nat.zero_add] at this
    · obtain ⟨i, hi, rfl⟩ := List.getElem_of_mem hy
      obtain ⟨cs, -, -, -, g⟩ := hp i hi
      exact g
    · simp only [List.length_map] at hw
      have h5 := Nat.le_mul_of_pos_right (elems.length + rest.length) (show 0 < b by omega)
      omega
theorem LocksC.of_chunks : ∀ {l : List LockT} {xs : List Value}, Chunks (LockC W) l xs → LocksC W l xs
  | [], xs, h => by unfold Chunks at h; unfold LocksC; exact h
  | x :: r, xs, h => by
    unfold Chunks at h
    obtain ⟨cs, rest, h1, h2, h3⟩ := h
    unfold LocksC
    exact ⟨cs, rest, h1, h2, LocksC.of_chunks h3⟩
theorem boundTs_of : ∀ {l : List LockT}, (∀ x ∈ l, boundT x) → boundTs l
  | [], _ => by unfold boundTs; trivial
  | x :: r, h => by unfold boundTs; exact ⟨h x (List.mem_cons_self ..), boundTs_of fun y hy => h y (List.mem_cons_of_mem _ hy)⟩
theorem list4 {cs : List Value} (h : cs.length = 4) : ∃ a b c d, cs = [a, b, c, d] := by
  match cs, h with
  | [a, b, c, d], _ => exact ⟨a, b, c, d, rfl⟩
theorem list5 {cs : List Value} (h : cs.length = 5) : ∃ a b c d e, cs = [a, b, c, d, e] := by
  match cs, h with
  | [a, b, c, d, e], _ => exact ⟨a, b, c, d, e, rfl⟩
theorem list3 {cs : List Value} (h : cs.length = 3) : ∃ a b c, cs = [a, b, c] := by
  match cs, h with
  | [a, b, c], _ => exact ⟨a, b, c, rfl⟩
theorem lockCells : Tryz.prog.cellsOf 32 = 4 := by kernel_rfl
theorem lockBytes : Tryz.prog.bytesOf 32 = 56 := by kernel_rfl
theorem cells1 : Tryz.prog.cellsOf 5 = 1 ∧ Tryz.prog.cellsOf 29 = 1 ∧ Tryz.prog.cellsOf 3 = 1 ∧ Tryz.prog.cellsOf 30 = 1 ∧ Tryz.prog.cellsOf 2 = 1 ∧ Tryz.prog.cellsOf 9 = 1 ∧ Tryz.prog.cellsOf 59 = 2 ∧ Tryz.prog.cellsOf 22 = 1 ∧ Tryz.prog.cellsOf 23 = 1 := ⟨by kernel_rfl, by kernel_rfl, by kernel_rfl, by kernel_rfl, by kernel_rfl, by kernel_rfl, by kernel_rfl, by kernel_rfl, by kernel_rfl⟩
set_option maxRecDepth 100000 in
theorem trod_lock : ∀ (fuel : Nat) (cs : List Value) (x : DataW H × List MemPlace), DataW.trod enc Tryz.prog W 0 (fun _ => true) true fuel 32 cs = some x → (∀ k ∈ x.1.weights Tryz.prog 32, k ≤ reachBytes) → ∃ l : LockT, LockC W l cs ∧ boundT l := by
  intro fuel
  induction fuel using Nat.strongRecOn with
  | ind fuel ih =>
    intro cs x h hB
    obtain ⟨y0, y1, y2, y3, m, hx, hl, h0, h1, h2, h3⟩ : ∃ y0 y1 y2 y3 m, x = (.agg [y0.1, y1.1, y2.1, y3.1], y0.2 ++ (y1.2 ++ (y2.2 ++ y3.2))) ∧ cs.length = 4 ∧ DataW.trod enc Tryz.prog W 0 (fun _ => true) true m 5 (cs.take 1) = some y0 ∧ DataW.trod enc Tryz.prog W 0 (fun _ => true) true m 29 ((cs.drop 1).take 1) = some y1 ∧ DataW.trod enc Tryz.prog W 0 (fun _ => true) true m 3 ((cs.drop 2).take 1) = some y2 ∧ (m < fuel ∧ DataW.trod enc Tryz.prog W 0 (fun _ => true) true m 30 ((cs.drop 3).take 1) = some y3) := by
      obtain ⟨xs, n, hfu, rfl, hl, hlen, hf⟩ := DataW.trod_struct Tryz.underlying32 h
      obtain ⟨c0, c1, c2, c3, -⟩ := cells1
      rw [lockCells] at hl
      match xs, hlen with
      | [y0, y1, y2, y3], _ =>
        have f0 : DataW.trod enc Tryz.prog W 0 (fun _ => true) true n 5 ((cs.drop 0).take (Tryz.prog.cellsOf 5)) = some y0 := hf 0 _ rfl
        have f1 : DataW.trod enc Tryz.prog W 0 (fun _ => true) true n 29 ((cs.drop 1).take (Tryz.prog.cellsOf 29)) = some y1 := hf 1 _ rfl
        have f2 : DataW.trod enc Tryz.prog W 0 (fun _ => true) true n 3 ((cs.drop 2).take (Tryz.prog.cellsOf 3)) = some y2 := hf 2 _ rfl
        have f3 : DataW.trod enc Tryz.prog W 0 (fun _ => true) true n 30 ((cs.drop 3).take (Tryz.prog.cellsOf 30)) = some y3 := hf 3 _ rfl
        rw [c0, List.drop_zero] at f0
        rw [c1] at f1
        rw [c2] at f2
        rw [c3] at f3
        exact ⟨y0, y1, y2, y3, n, by simp, hl, f0, f1, f2, by omega, f3⟩
    obtain ⟨v0, v1, v2, v3, rfl⟩ := list4 hl
    subst hx
    obtain ⟨n0, e0, -, -⟩ := DataW.trod_int Tryz.underlying5 h0
    obtain ⟨s1, e1, r1, -⟩ := DataW.trod_string Tryz.underlying29 h1
    obtain ⟨n2, e2, -, -⟩ := DataW.trod_int Tryz.underlying3 h2
    simp only [List.take_succ_cons, List.take_zero, List.drop_succ_cons, List.drop_zero, List.cons.injEq, and_true] at e0 e1 e2
    subst e0; subst e1; subst e2
    have w1 := weight_agg (fs := _) Tryz.underlying32 hB 1 _ y1.1 rfl rfl
    have w3 := weight_agg (fs := _) Tryz.underlying32 hB 3 _ y3.1 rfl rfl
    rw [show y1.1 = _ from congrArg Prod.fst r1] at w1
    have hsz := weight_string w1
    obtain ⟨hm, h3⟩ := h3
    obtain ⟨A, l, c, xs, hcs, g1, g2, g3, g4⟩ := open_rows (enc := enc) (W := W) Tryz.underlying30 lockCells lockBytes (by decide) (LockC W) boundT (fun n hn cs y _ hy hw => ih n (by omega) cs y hy hw) h3 w3
    have hcs2 : [v3] = [.slice A (List.length l) c] := hcs
    simp only [List.cons.injEq, and_true] at hcs2
    subst hcs2
    have hrb : reachBytes ≤ 1125899906842624 := by decide
    refine ⟨.node n0 s1 n2 l, ?_, ?_⟩
    · unfold LockC
      exact ⟨A, c, xs, rfl, g1, LocksC.of_chunks g2⟩
    · unfold boundT
      exact ⟨by omega, by omega, boundTs_of g3⟩
/-- An output's five cells. -/
def OutCk (W : World) (o : OutT) (cs : List Value) : Prop := ∃ ds, cs = .int .i64 o.value :: ds ∧ LockC W o.lock ds
theorem OutsC.of_chunks : ∀ {l : List OutT} {xs : List Value}, Chunks (OutCk W) l xs → OutsC W l xs
  | [], xs, h => by unfold Chunks at h; unfold OutsC; exact h
  | x :: r, xs, h => by
    unfold Chunks at h
    obtain ⟨cs, rest, rfl, ⟨ds, rfl, h2⟩, h3⟩ := h
    unfold OutsC
    exact ⟨ds, rest, rfl, h2, OutsC.of_chunks h3⟩
theorem insC_of_chunks : ∀ {l : List InT} {xs : List Value}, Chunks (fun (x : InT) cs => cs = [.string x.tx, .int .i64 x.pn, .int .i64 x.age]) l xs → xs = insC l
  | [], xs, h => by unfold Chunks at h; exact h
  | x :: r, xs, h => by
    unfold Chunks at h
    obtain ⟨cs, rest, rfl, rfl, h3⟩ := h
    rw [insC_of_chunks h3]; rfl
set_option maxRecDepth 100000 in
theorem trod_out {fuel : Nat} {cs : List Value} {x : DataW H × List MemPlace} (h : DataW.trod enc Tryz.prog W 0 (fun _ => true) true fuel 34 cs = some x) (hB : ∀ k ∈ x.1.weights Tryz.prog 34, k ≤ reachBytes) : ∃ o : OutT, OutCk W o cs ∧ boundT o.lock := by
  obtain ⟨xs, n, hfu, rfl, hl, hlen, hf⟩ := DataW.trod_struct Tryz.underlying34 h
  obtain ⟨-, -, -, -, c0, -⟩ := cells1
  rw [show Tryz.prog.cellsOf 34 = 5 by kernel_rfl] at hl
  obtain ⟨v0, v1, v2, v3, v4, rfl⟩ := list5 hl
  match xs, hlen with
  | [y0, y1], _ =>
    have f0 : DataW.trod enc Tryz.prog W 0 (fun _ => true) true n 2 (([v0, v1, v2, v3, v4].drop 0).take (Tryz.prog.cellsOf 2)) = some y0 := hf 0 _ rfl
    have f1 : DataW.trod enc Tryz.prog W 0 (fun _ => true) true n 32 (([v0, v1, v2, v3, v4].drop 1).take (Tryz.prog.cellsOf 32)) = some y1 := hf 1 _ rfl
    simp only [c0, lockCells, List.drop_zero, List.drop_succ_cons, List.take_succ_cons, List.take_zero] at f0 f1
    obtain ⟨n0, e0, -, -⟩ := DataW.trod_int Tryz.underlying2 f0
    simp only [List.cons.injEq, and_true] at e0
    subst e0
    have w1 := weight_agg (fs := _) Tryz.underlying34 hB 1 _ y1.1 rfl rfl
    obtain ⟨l, g1, g2⟩ := trod_lock n _ _ f1 w1
    exact ⟨⟨n0, l⟩, ⟨_, rfl, g1⟩, g2⟩
set_option maxRecDepth 100000 in
theorem trod_in {fuel : Nat} {cs : List Value} {x : DataW H × List MemPlace} (h : DataW.trod enc Tryz.prog W 0 (fun _ => true) true fuel 61 cs = some x) (hB : ∀ k ∈ x.1.weights Tryz.prog 61, k ≤ reachBytes) : ∃ i : InT, cs = [.string i.tx, .int .i64 i.pn, .int .i64 i.age] ∧ i.tx.size ≤ reachBytes ∧ (Lit.int .i64 i.pn).wf = true := by
  obtain ⟨xs, n, hfu, rfl, hl, hlen, hf⟩ := DataW.trod_struct Tryz.underlying61 h
  obtain ⟨-, -, c0, -, -, c1, c2, -⟩ := cells1
  rw [show Tryz.prog.cellsOf 61 = 3 by kernel_rfl] at hl
  obtain ⟨v0, v1, v2, rfl⟩ := list3 hl
  match xs, hlen with
  | [y0, y1], _ =>
    have f0 : DataW.trod enc Tryz.prog W 0 (fun _ => true) true n 59 (([v0, v1, v2].drop 0).take (Tryz.prog.cellsOf 59)) = some y0 := hf 0 _ rfl
    have f1 : DataW.trod enc Tryz.prog W 0 (fun _ => true) true n 3 (([v0, v1, v2].drop 2).take (Tryz.prog.cellsOf 3)) = some y1 := hf 1 _ rfl
    simp only [c0, c2, List.drop_zero, List.drop_succ_cons, List.take_succ_cons, List.take_zero] at f0 f1
    have w0 := weight_agg (fs := _) Tryz.underlying61 hB 0 _ y0.1 rfl rfl
    obtain ⟨zs, m, -, hy0, -, hlz, hg⟩ := DataW.trod_struct Tryz.underlying59 f0
    match zs, hlz with
    | [z0, z1], _ =>
      have k0 : DataW.trod enc Tryz.prog W 0 (fun _ => true) true m 9 (([v0, v1].drop 0).take (Tryz.prog.cellsOf 9)) = some z0 := hg 0 _ rfl
      have k1 : DataW.trod enc Tryz.prog W 0 (fun _ => true) true m 3 (([v0, v1].drop 1).take (Tryz.prog.cellsOf 3)) = some z1 := hg 1 _ rfl
      simp only [c0, c1, List.drop_zero, List.drop_succ_cons, List.take_succ_cons, List.take_zero] at k0 k1
      obtain ⟨s, es, rs, -⟩ := DataW.trod_string Tryz.underlying9 k0
      obtain ⟨p, ep, -, hwf⟩ := DataW.trod_int Tryz.underlying3 k1
      obtain ⟨g, eg, -, -⟩ := DataW.trod_int Tryz.underlying3 f1
      simp only [List.cons.injEq, and_true] at es ep eg
      subst es; subst ep; subst eg
      rw [hy0] at w0
      have w00 := weight_agg (fs := _) Tryz.underlying59 w0 0 _ z0.1 rfl rfl
      rw [show z0.1 = _ from congrArg Prod.fst rs] at w00
      exact ⟨⟨s, p, g⟩, rfl, weight_string w00, hwf⟩
set_option maxRecDepth 100000 in
theorem open_tx {base : Nat} {v : Value} {d : DataW H} {p : List MemPlace} (hval : Value.okWide Tryz.prog W .any base 25 v) (h : DataW.Trod enc Tryz.prog W 0 (fun _ => true) true 25 v d p) (hB : ∀ n ∈ d.weights Tryz.prog 25, n ≤ reachBytes) :
    ∃ (ins : List InT) (outs : List OutT) (after tag : Int) (A B : Option Addr) (ca cb : Nat), v = .agg #[.slice A ins.length ca, .slice B outs.length cb, .int .i64 after, .int .i64 tag] ∧ TxC W ⟨ins, outs, after, tag⟩ A B ∧ boundTx ⟨ins, outs, after, tag⟩ ∧ ∀ x ∈ ins, (Lit.int .i64 x.pn).wf = true := by
  obtain ⟨v0, v1, v2, v3, y0, y1, y2, y3, n, rfl, rfl, -, t0, t1, t2, t3⟩ := Go.Joins.open_agg4 Tryz.underlying25 (by kernel_rfl) (by kernel_rfl) hval h
  obtain ⟨n2, e2, -, -⟩ := DataW.trod_int Tryz.underlying3 t2
  obtain ⟨n3, e3, -, -⟩ := DataW.trod_int Tryz.underlying2 t3
  simp only [List.cons.injEq, and_true] at e2 e3
  subst e2; subst e3
  have w0 := weight_agg (fs := _) Tryz.underlying25 hB 0 _ y0.1 rfl rfl
  have w1 := weight_agg (fs := _) Tryz.underlying25 hB 1 _ y1.1 rfl rfl
  obtain ⟨A, ins, ca, xs, hcs, g1, g2, g3, g4⟩ := open_rows (enc := enc) (W := W) Tryz.underlying22 (show Tryz.prog.cellsOf 61 = 3 by kernel_rfl) (show Tryz.prog.bytesOf 61 = 32 by kernel_rfl) (by decide) (fun (x : InT) cs => cs = [.string x.tx, .int .i64 x.pn, .int .i64 x.age]) (fun x => x.tx.size ≤ reachBytes ∧ (Lit.int .i64 x.pn).wf = true)
    (fun n _ cs y _ hy hw => by obtain ⟨i, h1, h2⟩ := trod_in hy hw; exact ⟨i, h1, h2⟩) t0 w0
  obtain ⟨B, outs, cb, ys, hcs2, k1, k2, k3, k4⟩ := open_rows (enc := enc) (W := W) Tryz.underlying23 (show Tryz.prog.cellsOf 34 = 5 by kernel_rfl) (show Tryz.prog.bytesOf 34 = 64 by kernel_rfl) (by decide) (OutCk W) (fun o => boundT o.lock)
    (fun n _ cs y _ hy hw => trod_out hy hw) t1 w1
  simp only [List.cons.injEq, and_true] at hcs hcs2
  subst hcs; subst hcs2
  have hrb : reachBytes ≤ 1125899906842624 := by decide
  rw [insC_of_chunks g2] at g1
  exact ⟨ins, outs, n2, n3, A, B, ca, cb, rfl, ⟨g1, ys, k1, OutsC.of_chunks k2⟩, ⟨fun x hx => Nat.le_trans (g3 x hx).1 hrb, k3, Nat.le_trans g4 hrb, Nat.le_trans k4 hrb⟩, fun x hx => (g3 x hx).2⟩
end
end Go.Proofs.YtaonadgelkdbcaaGreatDoor

namespace Go.Proofs.YtaonadgelkdbcaaGreatDoor
open Go.ChangeShapes Go.WideShapes Go.ChangeAt Go.RowKit Go.WideMaps Go.WideElems

theorem own : ownKnob Tryz.prog.godebug = none := by kernel_rfl
theorem laidOut : laidOutB Tryz.prog = true := by kernel_rfl

section
variable {H : Type} {enc : TypeId × Value → H}

def Readable (t : TypeId) : Prop := Tryz.prog.readableRec t = true ∧ t < Tryz.prog.types.size
theorem trodAll_stays {W W' : World} {sp : Nat → Bool} (hb : Below W.heap.size W W') {ts : List TypeId} (hr : ∀ t ∈ ts, Readable t) : ∀ {vs : List Value} {ds : List (DataW H)} {ps : List MemPlace},
    DataW.TrodAll enc Tryz.prog W 0 (fun _ => true) true ts vs ds ps → (∀ p ∈ ps, p.block < W.heap.size) → (∀ p ∈ ps, sp p.block = true) → DataW.TrodAll enc Tryz.prog W' 0 sp true ts vs ds ps := by
  induction ts with
  | nil =>
    intro vs ds ps h _ _
    obtain ⟨rfl, rfl, rfl⟩ := trodAll_nil h
    exact trodAll_mk0
  | cons t ts ih =>
    intro vs ds ps h hlt hs
    obtain ⟨v, vs', d, ds', p, q, rfl, rfl, rfl, h0, h1⟩ := trodAll_cons h
    have h2 := hr t (List.mem_cons_self ..)
    exact trodAll_cons_mk (Trod_stays laidOut h2.1 h2.2 h0 (fun x hx => hb.same (hlt x (List.mem_append_left _ hx))) (fun x hx => hs x (List.mem_append_left _ hx)))
      (ih (fun u hu => hr u (List.mem_cons_of_mem _ hu)) h1 (fun x hx => hlt x (List.mem_append_right _ hx)) (fun x hx => hs x (List.mem_append_right _ hx)))

set_option maxRecDepth 100000 in
/-- The law's last step: its call gave true, and only new blocks were laid. -/
theorem post_true {f : Func} {s : ChangeSpec} {W W' : World} {args : Array Value} {ds : List (DataW H)} {before : List MemPlace}
    (hW : DataW.Whole enc Tryz.prog f.params.toList s.vars false W args.toList ds [] before) (hvs : s.vars = []) (hf : ∀ t ∈ f.params.toList, Readable t)
    (hr : f.resultTypes = #[4]) (hfn : s.fn H (ds ++ []) = { results := [.lit (.bool true)], args := ds }) (hb : Below W.heap.size W W') :
    s.post enc Tryz.prog f false true false false W args (.bool true) W' := by
  have hW' := hW
  obtain ⟨p, q, hA, hV, rfl, hfz, hnd⟩ := hW
  rw [hvs] at hV
  obtain ⟨-, rfl⟩ := trodVars_none hV
  have hlt0 : ∀ x ∈ p ++ [], x.block < W.heap.size := fun x hx => hW'.lt x hx
  have hlt : ∀ x ∈ p, x.block < W.heap.size := fun x hx => hlt0 x (List.mem_append_left _ hx)
  have hres : ∀ (b : Nat) (sp : Nat → Bool) (hd : Bool), DataW.TrodAll enc Tryz.prog W' b sp hd f.resultTypes.toList ((Value.bool true).resultList f.resultTypes.size) (s.fn H (ds ++ [])).results [] := by
    intro b sp hd
    rw [hfn, hr]
    exact trodAll_mk1 (shut_bool Tryz.underlying4 _)
  have hold : ∀ x ∈ p, (fun b => decide (b < W.heap.size)) x.block = true := fun x hx => by simpa using hlt x hx
  have hargs : ∀ sp : Nat → Bool, (∀ x ∈ p, sp x.block = true) → DataW.TrodAll enc Tryz.prog W' 0 sp true f.params.toList args.toList (s.fn H (ds ++ [])).args p := by
    intro sp hsp
    rw [hfn]
    exact trodAll_stays hb hf hA hlt hsp
  have hvars : ∀ sp : Nat → Bool, DataW.TrodVars enc Tryz.prog W' sp s.vars (s.fn H (ds ++ [])).vars [] := by
    intro sp
    rw [hvs, hfn]
    exact rfl
  refine ⟨ds, [], p ++ [], [], p, [], hW', hres _ _ _, hargs _ hold, hvars _, World.keptBut_mono (fun x hx => ⟨hx, ?_⟩) (hb.frame (· ∈ p ++ [])), fun _ => ?_⟩
  · rw [List.mem_append] at hx
    exact Or.inr hx
  · refine ⟨ok_one hr rfl (okWide_bool_mk Tryz.underlying4 _), _, _, ([] ++ p) ++ [], ⟨[] ++ p, [], trodAll_append (hargs _ (fun _ _ => rfl)) (hres _ _ _), hvars _, rfl, ?_, ?_⟩, ?_⟩
    · intro b off hp
      have hin : MemPlace.cell b off ∈ p ++ [] := by simpa using hp
      rw [hb.frozen (hlt0 _ hin)]
      exact hfz b off hin
    · intro ha; cases ha
    · intro x hx _
      simpa using hx

end
end Go.Proofs.YtaonadgelkdbcaaGreatDoor
