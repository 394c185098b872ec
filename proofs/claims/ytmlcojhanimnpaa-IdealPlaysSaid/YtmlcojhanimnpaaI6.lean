/- A ledger in memory: its block, its two maps, its row of holds; what a call may touch. Copies of legs and of holds. -/
import Derived.Test.YtmlcojhanimnpaaI5
import Derived.Test.YtmlcojhanimnpaaStructs
import Derived.Lib.LazyBuf
namespace Go.Proofs.Ytmlcojhanimnpaa
open Go.RowKit

/-- w' is w but for the blocks of F and new ones. -/
structure Fr (F : List Nat) (w w' : World) : Prop where
  os : w'.os = w.os
  tape : w'.tape = w.tape
  output : w'.output = w.output
  size : w.heap.size ≤ w'.heap.size
  block : ∀ i, i < w.heap.size → i ∉ F → w'.heap[i]? = w.heap[i]?
theorem Fr.refl (F : List Nat) (w : World) : Fr F w w := ⟨rfl, rfl, rfl, Nat.le_refl _, fun _ _ _ => rfl⟩
theorem Fr.below {F : List Nat} {w w' : World} (h : Below w.heap.size w w') : Fr F w w' := ⟨h.os, h.tape, h.output, h.size, fun i hi _ => h.block i hi⟩
theorem Fr.grown {F : List Nat} {w w' : World} {row : Option Nat} (h : w.grownBy w' row) (hr : ∀ k, row = some k → k < w.heap.size → k ∈ F) : Fr F w w' :=
  ⟨h.os, h.tape, h.output, h.size, fun i hi hn => h.block i hi (fun e => hn (hr i e.symm hi))⟩
theorem Fr.mono {F G : List Nat} {w w' : World} (h : Fr F w w') (hs : ∀ i ∈ F, i < w.heap.size → i ∈ G) : Fr G w w' := ⟨h.os, h.tape, h.output, h.size, fun i hi hn => h.block i hi fun hf => hn (hs i hf hi)⟩
theorem Fr.trans {F G : List Nat} {w w' w'' : World} (h : Fr F w w') (h' : Fr G w' w'') (hs : ∀ i ∈ G, i < w.heap.size → i ∈ F) : Fr F w w'' :=
  ⟨h'.os.trans h.os, h'.tape.trans h.tape, h'.output.trans h.output, Nat.le_trans h.size h'.size, fun i hi hn => (h'.block i (Nat.lt_of_lt_of_le hi h.size) fun hg => hn (hs i hg hi)).trans (h.block i hi hn)⟩
theorem Fr.toBelow {w w' : World} (h : Fr [] w w') : Below w.heap.size w w' := ⟨h.os, h.tape, h.output, h.size, fun i hi => h.block i hi (by simp)⟩
theorem Fr.toBelowOf {F : List Nat} {B : Nat} {w w' : World} (h : Fr F w w') (hB : B ≤ w.heap.size) (hF : ∀ i ∈ F, B ≤ i) : Below B w w' := ⟨h.os, h.tape, h.output, h.size, fun i hi => h.block i (Nat.lt_of_lt_of_le hi hB) fun hf => absurd (hF i hf) (by omega)⟩

def legC (x : Leg) : List Value := [.string x.ch, .string x.src, .int .i64 x.amt]
def legsC (l : List Leg) : List Value := l.flatMap legC
theorem legsC_len (l : List Leg) : (legsC l).length = l.length * 3 := by
  induction l with
  | nil => rfl
  | cons x r ih => simp only [legsC, List.flatMap_cons, List.length_append] at ih ⊢; rw [ih]; simp [legC]; omega
theorem legsC_one (l : List Leg) : ∀ u ∈ legsC l, u.oneCell' = true := by
  intro u hu
  simp only [legsC, List.mem_flatMap] at hu
  obtain ⟨x, -, hx⟩ := hu
  simp only [legC, List.mem_cons, List.not_mem_nil, or_false] at hx
  rcases hx with rfl | rfl | rfl <;> rfl
theorem legsC_at (l : List Leg) (k : Nat) (h : k < l.length) : (legsC l)[k * 3]? = some (.string l[k].ch) ∧ (legsC l)[k * 3 + 1]? = some (.string l[k].src) ∧ (legsC l)[k * 3 + 2]? = some (.int .i64 l[k].amt) := by
  induction l generalizing k with
  | nil => simp at h
  | cons x r ih =>
    cases k with
    | zero => simp [legsC, legC]
    | succ k =>
      have h1 := ih k (by simpa using h)
      have e : ∀ j, (legsC (x :: r))[(k + 1) * 3 + j]? = (legsC r)[k * 3 + j]? := by
        intro j
        simp only [legsC, List.flatMap_cons]
        rw [List.getElem?_append_right (by simp [legC]; omega)]
        congr 1
        simp [legC]; omega
      have e0 := e 0
      simp only [Nat.add_zero] at e0
      rw [e0, e 1, e 2]
      simpa using h1
/-- The legs of a slice that came in, or of any readable one. -/
def LegsIn (w : World) (A : Option Addr) (l : List Leg) : Prop := Cells w A (legsC l)
theorem LegsIn.at_ {w : World} {A : Option Addr} {l : List Leg} (h : LegsIn w A l) {k : Nat} (hk : k < l.length) :
    ∃ ad, A = some ad ∧ w.cell? (ad.add (k * 3)) = some (.string l[k].ch) ∧ w.cell? (ad.add (k * 3 + 1)) = some (.string l[k].src) ∧ w.cell? (ad.add (k * 3 + 2)) = some (.int .i64 l[k].amt) := by
  obtain ⟨ad, he, hc⟩ := h (by rw [legsC_len]; omega)
  obtain ⟨h1, h2, h3⟩ := legsC_at l k hk
  exact ⟨ad, he, hc _ _ h1, hc _ _ h2, hc _ _ h3⟩
theorem slLeg : SlTyK Try.prog 23 45 (.agg #[.string ⟨#[]⟩, .string ⟨#[]⟩, .int .i64 0]) 3 40 := ⟨Try.underlying23, by kernel_rfl, rfl, by decide⟩
/-- A copy of legs: a row of the call's own. -/
def LegsP (w : World) (l : List Leg) (e : Ending) (w' : World) : Prop :=
  ∃ A c, e = .returned (.slice A l.length c) ∧ w'.ownsRow w.heap.size 45 3 (.slice A l.length c) l.length (legsC l) ∧ Below w.heap.size w w'
theorem legsP_of {w w' : World} {l : List Leg} {v : Value} (hown : w'.ownsRow w.heap.size 45 3 v l.length (legsC l)) (hb : Below w.heap.size w w') : LegsP w l (.returned v) w' := by
  obtain ⟨A, c, rfl, -, -⟩ := own_shape hown
  exact ⟨A, c, rfl, hown, hb⟩
set_option maxHeartbeats 1000000 in
theorem lent_any (l : List Leg) (A : Option Addr) (c : Nat) (w : World) (hl : l.length ≤ 100000) (hA : LegsIn w A l) :
    Calls Try.prog 14 #[.slice A l.length c] w (LegsP w l) := by
  have h0 : w.ownsRow w.heap.size 45 3 (.slice none 0 0) 0 [] := World.ownsRow_nil _ _ _ _
  have hlc := legsC_len l
  have hl1 := legsC_one l
  have HL := Lib.hid hlc
  have H1 := Lib.hid hl1
  have HA := Lib.hid hA
  clear hlc hl1 hA
  generalize hn : l.length = n at *
  have HN := Lib.hid hn; clear hn
  go_enter Try.func14, Try.ntmps14
  go_wp2_with (at_builtin; refine wpList_appk slLeg rfl _ _ rfl w.heap.size _ 0 [] rfl h0 A n c (legsC l) rfl HL.out HA.out H1.out (by omega) (by omega) (Nat.le_refl _) ?_; intro v' w1 hown hg hb hat)
  go_ret
  rw [Nat.zero_add, List.nil_append] at hown
  exact legsP_of (by rw [HN.out]; exact hown) hb
theorem own_empty (w : World) (E : TypeId) (size : Nat) : (w.alloc (.cells #[] E)).ownsRow w.heap.size E size (.slice (some ⟨w.heap.size, 0, none⟩) 0 0) 0 [] :=
  ⟨by simp, .inr ⟨w.heap.size, 0, #[], rfl, Nat.le_refl _, Go.heap_alloc_new w _, Nat.le_refl _, by decide, by simp, by simp⟩⟩
set_option maxRecDepth 100000 in
set_option maxHeartbeats 1000000 in
theorem cloneLegs (l : List Leg) (A : Option Addr) (c : Nat) (w : World) (hl : l.length ≤ 100000) (hA : LegsIn w A l) :
    Calls Try.prog 37 #[.slice A l.length c] w (LegsP w l) := by
  rcases A with _ | ad
  · have hl0 : l = [] := by
      cases l with
      | nil => rfl
      | cons x r => obtain ⟨ad, he, -⟩ := hA.at_ (k := 0) (by simp); cases he
    subst hl0
    clear hA hl
    have hfin : LegsP w [] (.returned (.slice none 0 0)) w := legsP_of (World.ownsRow_nil _ _ _ _) (Below.refl _ _)
    have HF := Lib.hid hfin
    clear hfin
    have hq := fun (w : World) (a : Option Addr) (l c : Nat) => Go.run_eql_slice_nil (P := Try.prog) w 23 45 a l c Try.underlying23
    go_enter Try.func37, Try.ntmps37
    go_wp2
    go_ret
    exact HF.out
  · have h0 := own_empty w 45 3
    have hlc := legsC_len l
    have hl1 := legsC_one l
    have HL := Lib.hid hlc
    have H1 := Lib.hid hl1
    have HA := Lib.hid (Cells.alloc hA (.cells #[] 45))
    clear hlc hl1 hA
    generalize hn : l.length = n at *
    have HN := Lib.hid hn; clear hn
    have hsz : w.heap.size ≤ (w.alloc (.cells #[] 45)).heap.size := by simp
    have HSZ := Lib.hid hsz; clear hsz
    have hq := fun (w : World) (a : Option Addr) (l c : Nat) => Go.run_eql_slice_nil (P := Try.prog) w 23 45 a l c Try.underlying23
    go_enter Try.func37, Try.ntmps37
    go_wp2_with (at_builtin; refine wpList_appk slLeg rfl _ _ rfl w.heap.size _ 0 [] rfl h0 (some ad) n c (legsC l) rfl HL.out HA.out H1.out (by omega) (by omega) HSZ.out ?_; intro v' w1 hown hg hb hat)
    go_ret
    rw [Nat.zero_add, List.nil_append] at hown
    exact legsP_of (by rw [HN.out]; exact hown) (((Below.refl _ _).alloc (Nat.le_refl _) _).trans hb)

/-- The cells of a row of holds: each hold's number, and a slice of the program's own that holds its legs. -/
def HoldVs (w : World) : List HoldR → List Value → Prop
  | [], vs => vs = []
  | h :: r, vs => ∃ A c rest, vs = .int .i64 h.id :: .slice A h.legs.length c :: rest ∧ w.ownsRow 0 45 3 (.slice A h.legs.length c) h.legs.length (legsC h.legs) ∧ HoldVs w r rest
theorem HoldVs.len {w : World} : ∀ {l : List HoldR} {vs : List Value}, HoldVs w l vs → vs.length = l.length * 2
  | [], vs, h => by
    have h' : vs = [] := h
    rw [h']; rfl
  | x :: r, vs, h => by
    obtain ⟨A, c, rest, rfl, -, hr⟩ := h
    have := HoldVs.len hr
    simp; omega
theorem HoldVs.one {w : World} : ∀ {l : List HoldR} {vs : List Value}, HoldVs w l vs → ∀ u ∈ vs, u.oneCell' = true
  | [], vs, h => by
    have h' : vs = [] := h
    rw [h']; intro u hu; cases hu
  | x :: r, vs, h => by
    obtain ⟨A, c, rest, rfl, -, hr⟩ := h
    intro u hu
    rcases List.mem_cons.1 hu with rfl | hu
    · rfl
    · rcases List.mem_cons.1 hu with rfl | hu
      · rfl
      · exact HoldVs.one hr u hu
/-- The holds stay what they are where no block of legs is written to. -/
theorem HoldVs.kept {w w' : World} (hk : ∀ (g : Nat) (cur : Array Value), w.heap[g]? = some (Obj.cells cur 45) → w'.heap[g]? = w.heap[g]?) : ∀ {l : List HoldR} {vs : List Value}, HoldVs w l vs → HoldVs w' l vs
  | [], vs, h => h
  | x :: r, vs, h => by
    obtain ⟨A, c, rest, rfl, ho, hr⟩ := h
    refine ⟨A, c, rest, rfl, ⟨ho.1, ?_⟩, HoldVs.kept hk hr⟩
    rcases ho.2 with h0 | ⟨g, cap, cur, hv, hg, hh, rest2⟩
    · exact .inl h0
    · exact .inr ⟨g, cap, cur, hv, hg, (hk g cur hh).trans hh, rest2⟩
theorem HoldVs.at_ {w : World} : ∀ {l : List HoldR} {vs : List Value}, HoldVs w l vs → ∀ (k : Nat) (hk : k < l.length), ∃ A c, vs[k * 2]? = some (.int .i64 l[k].id) ∧ vs[k * 2 + 1]? = some (.slice A l[k].legs.length c) ∧ w.ownsRow 0 45 3 (.slice A l[k].legs.length c) l[k].legs.length (legsC l[k].legs)
  | [], vs, h => fun k hk => by simp at hk
  | x :: r, vs, h => fun k hk => by
    obtain ⟨A, c, rest, rfl, ho, hr⟩ := h
    cases k with
    | zero => exact ⟨A, c, rfl, rfl, ho⟩
    | succ k =>
      obtain ⟨A', c', h1, h2, h3⟩ := HoldVs.at_ hr k (by simpa using hk)
      refine ⟨A', c', ?_, ?_, h3⟩
      · rw [show (k + 1) * 2 = k * 2 + 2 by omega]; exact h1
      · rw [show (k + 1) * 2 + 1 = k * 2 + 1 + 2 by omega]; exact h2
theorem HoldVs.append {w : World} : ∀ {l r : List HoldR} {vs us : List Value}, HoldVs w l vs → HoldVs w r us → HoldVs w (l ++ r) (vs ++ us)
  | [], r, vs, us, h, h' => by
    have h0 : vs = [] := h
    rw [h0]; exact h'
  | x :: l, r, vs, us, h, h' => by
    obtain ⟨A, c, rest, rfl, ho, hr⟩ := h
    exact ⟨A, c, rest ++ us, rfl, ho, HoldVs.append hr h'⟩
theorem HoldVs.drop {w : World} : ∀ {l : List HoldR} {vs : List Value}, HoldVs w l vs → ∀ k, HoldVs w (l.drop k) (vs.drop (k * 2))
  | l, vs, h, 0 => by simpa using h
  | [], vs, h, k + 1 => by
    have h0 : vs = [] := h
    rw [h0]; simp; exact rfl
  | x :: r, vs, h, k + 1 => by
    obtain ⟨A, c, rest, rfl, ho, hr⟩ := h
    have := HoldVs.drop hr k
    rw [show (k + 1) * 2 = k * 2 + 2 by omega]
    exact this
theorem HoldVs.take {w : World} : ∀ {l : List HoldR} {vs : List Value}, HoldVs w l vs → ∀ k, HoldVs w (l.take k) (vs.take (k * 2))
  | l, vs, h, 0 => by simp; exact rfl
  | [], vs, h, k + 1 => by
    have h0 : vs = [] := h
    rw [h0]; simp; exact rfl
  | x :: r, vs, h, k + 1 => by
    obtain ⟨A, c, rest, rfl, ho, hr⟩ := h
    rw [show (k + 1) * 2 = k * 2 + 2 by omega]
    exact ⟨A, c, rest.take (k * 2), rfl, ho, HoldVs.take hr k⟩
theorem slHold : SlTyK Try.prog 68 74 (.agg #[.int .i64 0, .slice none 0 0]) 2 32 := ⟨Try.underlying68, by kernel_rfl, rfl, by decide⟩
/-- A copy of holds. -/
def HoldsP (w : World) (n : Nat) (vs : List Value) (e : Ending) (w' : World) : Prop :=
  ∃ v, e = .returned v ∧ w'.ownsRow w.heap.size 74 2 v n vs ∧ Below w.heap.size w w'
set_option maxRecDepth 100000 in
set_option maxHeartbeats 1000000 in
theorem cloneHolds (vs : List Value) (n : Nat) (A : Option Addr) (c : Nat) (w : World) (hl : n ≤ 100000) (hlen : vs.length = n * 2) (h1 : ∀ u ∈ vs, u.oneCell' = true) (hA : Cells w A vs) :
    Calls Try.prog 35 #[.slice A n c] w (HoldsP w n vs) := by
  rcases A with _ | ad
  · have hl0 : vs = [] := by
      cases vs with
      | nil => rfl
      | cons x r => obtain ⟨ad, he, -⟩ := hA (by simp); cases he
    subst hl0
    have hn0 : n = 0 := by simp at hlen; omega
    subst hn0
    clear hA hl hlen h1
    have hfin : HoldsP w 0 [] (.returned (.slice none 0 0)) w := ⟨_, rfl, World.ownsRow_nil _ _ _ _, Below.refl _ _⟩
    have HF := Lib.hid hfin
    clear hfin
    have hq := fun (w : World) (a : Option Addr) (l c : Nat) => Go.run_eql_slice_nil (P := Try.prog) w 68 74 a l c Try.underlying68
    go_enter Try.func35, Try.ntmps35
    go_wp2
    go_ret
    exact HF.out
  · have h0 := own_empty w 74 2
    have HL := Lib.hid hlen
    have H1 := Lib.hid h1
    have HA := Lib.hid (Cells.alloc hA (.cells #[] 74))
    clear hlen h1 hA
    have hsz : w.heap.size ≤ (w.alloc (.cells #[] 74)).heap.size := by simp
    have HSZ := Lib.hid hsz; clear hsz
    have hq := fun (w : World) (a : Option Addr) (l c : Nat) => Go.run_eql_slice_nil (P := Try.prog) w 68 74 a l c Try.underlying68
    go_enter Try.func35, Try.ntmps35
    go_wp2_with (at_builtin; refine wpList_appk slHold rfl _ _ rfl w.heap.size _ 0 [] rfl h0 (some ad) n c vs rfl HL.out HA.out H1.out (by omega) (by omega) HSZ.out ?_; intro v' w1 hown hg hb hat)
    go_ret
    rw [Nat.zero_add, List.nil_append] at hown
    exact ⟨_, rfl, hown, ((Below.refl _ _).alloc (Nat.le_refl _) _).trans hb⟩
end Go.Proofs.Ytmlcojhanimnpaa
