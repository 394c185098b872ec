/- A row of writes sorted by their numbers. -/
import Derived.Test.YtladknjmoahdoaaK17
import Derived.Test.YtladknjmoahdoaaIMap
import Derived.Shelf.SlSortCmp.WholeK
import Derived.Shelf.SlSortCmp.NoneTotal
set_option linter.all false
namespace Go.Proofs.Ytladknjmoahdoaa
open Go.RowKit Go.Shelf Go.Sort

/-- Writes whose numbers are not too large. -/
abbrev WrB := { x : WrT // x.no < 4611686018427387904 }
instance : Inhabited WrB := ⟨⟨⟨0, 0, zeroP⟩, by decide⟩⟩
def encB (x : WrB) : List Value := wrL x.1
def cfB (a b : WrB) : Int := (a.1.no : Int) - b.1.no
theorem cfB_swo : SWO (ltOf cfB) := by
  refine ⟨fun x => ?_, fun x y z h1 h2 => ?_, fun x y z h1 h2 => ?_⟩
  · unfold ltOf cfB; simp
  · unfold ltOf cfB at *
    have a := of_decide_eq_true h1
    have b := of_decide_eq_true h2
    exact decide_eq_true (by omega)
  · unfold ltOf cfB at *
    have a := of_decide_eq_false h1
    have b := of_decide_eq_false h2
    exact decide_eq_false (by omega)
theorem wrC_at (x : WrT) : (wrC x)[0]? = some (.int .i64 x.no) ∧ (wrC x)[1]? = some (.int .i64 x.place) := by
  unfold wrC
  exact ⟨by rw [Array.getElem?_append_left (by simp)]; rfl, by rw [Array.getElem?_append_left (by simp)]; rfl⟩
theorem grow_two (w : World) (a b : Obj) : ∃ q os', (w.alloc a).alloc b = grow (w.drewN q) os' := ⟨0, #[a, b], by
  simp only [alloc_eq_grow, grow_grow]; rfl⟩
set_option maxRecDepth 100000 in
theorem cmp_any (x y : WrB) (w : World) : Calls Try.prog 35 #[.agg (encB x).toArray, .agg (encB y).toArray] w fun e w' => e = .returned (.int .i64 (cfB x y)) ∧ ∃ q os', w' = grow (w.drewN q) os' := by
  have hx : (encB x).toArray = wrC x.1 := by simp [encB, wrL]
  have hy : (encB y).toArray = wrC y.1 := by simp [encB, wrL]
  rw [hx, hy]
  have c0 : ((w.alloc (.cells (wrC x.1) 77)).alloc (.cells (wrC y.1) 77)).cell? ⟨w.heap.size, 0, none⟩ = some (.int .i64 x.1.no) := cell_of (j := 0) (first_of_two w _ _) (wrC_at x.1).1
  have c1 : ((w.alloc (.cells (wrC x.1) 77)).alloc (.cells (wrC y.1) 77)).cell? ⟨w.heap.size + 1, 0, none⟩ = some (.int .i64 y.1.no) := cell_of (j := 0) (second_of_two w _ _) (wrC_at y.1).1
  have hw : IntKind.i64.wrap ((x.1.no : Int) - y.1.no) = (x.1.no : Int) - y.1.no := IntWalk.i64_in _ (by have := x.2; have := y.2; omega)
  have HG := Lib.hid (grow_two w (.cells (wrC x.1) 77) (.cells (wrC y.1) 77))
  unfold cfB
  clear hx hy
  go_enter Try.func35, Try.ntmps35
  go_wp2_with fail
  go_ret
  exact ⟨by rw [← hw]; rfl, HG.out⟩
theorem flat_getD {α : Type} {f : α → List Value} {k : Nat} (hk : ∀ x, (f x).length = k) (h0 : 0 < k) (l : List α) (t : Nat) (ht : t < l.length * k) : (l.flatMap f)[t]? = (f (l[t / k]'(by exact Nat.div_lt_of_lt_mul (by rw [Nat.mul_comm]; exact ht))))[t % k]? := by
  have hi : t / k < l.length := Nat.div_lt_of_lt_mul (by rw [Nat.mul_comm]; exact ht)
  have := flat_at hk l hi (Nat.mod_lt t h0)
  rwa [Nat.mul_comm, Nat.div_add_mod] at this
theorem flatK_eq (d : Array WrB) : flatK encB 258 d = (wrsC (d.toList.map Subtype.val)).toArray := by
  have e0 : wrsC (d.toList.map Subtype.val) = d.toList.flatMap encB := by unfold wrsC; rw [List.flatMap_map]; rfl
  rw [e0]
  have hlen : ∀ x : WrB, (encB x).length = 258 := fun x => wrL_len x.1
  apply Array.ext
  · simp [size_flatK, flat_len hlen]
  · intro t h1 h2
    rw [size_flatK] at h1
    have hi : t / 258 < d.size := Nat.div_lt_of_lt_mul (by omega)
    have h3 := flat_getD hlen (by decide) d.toList t (by simpa using h1)
    have h4 := get_flatK encB 258 d t h1
    rw [getElem!_pos _ t (by rw [size_flatK]; exact h1)] at h4
    rw [h4]
    have h5 : (d.toList.flatMap encB).toArray[t]? = some ((d.toList.flatMap encB).toArray[t]'h2) := Array.getElem?_eq_getElem h2
    rw [List.getElem?_toArray, h3] at h5
    have h6 : t % 258 < (encB (d.toList[t / 258]'(by simpa using hi))).length := by rw [hlen]; exact Nat.mod_lt _ (by decide)
    rw [List.getElem?_eq_getElem h6] at h5
    injection h5 with h5
    rw [← h5, getElem!_pos d _ hi, getElem!_pos _ _ (by rw [hlen]; exact Nat.mod_lt _ (by decide))]
    simp only [Array.getElem_toList]
theorem holds_writes {w : World} {base g n cap : Nat} {l : List WrB} (h : w.ownsRow base 77 258 (.slice (some ⟨g, 0, none⟩) n cap) n (wrsC (l.map Subtype.val))) (hn : l.length = n) : HoldsK encB 258 w g 0 l.toArray := by
  intro j hj
  rw [flatK_eq] at hj ⊢
  have hj' : j < n * 258 := by
    have := wrsC_len (l.map Subtype.val)
    rw [List.length_map, hn] at this
    simp only [List.size_toArray] at hj
    omega
  refine ⟨?_, World.ownsRow.frozenAt h _⟩
  rw [Nat.zero_add, World.ownsRow.cellAt h j hj']
  rw [getElem!_pos _ j hj]
  simp only [List.getElem_toArray]
  exact List.getElem?_eq_getElem _
/-- A row as the sort leaves it. -/
theorem sorted_writes {w : World} {base g n cap : Nat} {l ks : List WrB} (h : w.ownsRow base 77 258 (.slice (some ⟨g, 0, none⟩) n cap) n (wrsC (l.map Subtype.val))) (hn : l.length = n) (hk : ks.length = n) (m : Nat) (os : Array Obj) :
    (Go.Proofs.sortWorldK encB 258 w g 0 m ks.toArray os).ownsRow base 77 258 (.slice (some ⟨g, 0, none⟩) n cap) n (wrsC (ks.map Subtype.val)) ∧ Fr [g] w (Go.Proofs.sortWorldK encB 258 w g 0 m ks.toArray os) := by
  have hl := (World.ownsRow.lt h g rfl).2
  have hH := holdsK_sortWorldK_c encB 258 w g 0 l.toArray ks.toArray m os (holds_writes h hn) hl (by simp [hn, hk])
  rcases h.2 with ⟨h0, -⟩ | ⟨g', cap', cur, hv, hb, hg, hnc, hm, hs, ht⟩
  · cases h0
  · injection hv with h1 h2 h3
    injection h1 with h1
    injection h1 with h1 _ _
    subst h1; subst h3
    have hblk : (Go.Proofs.sortWorldK encB 258 w g 0 m ks.toArray os).heap[g]? = some (.cells (putCells id 0 (flatK encB 258 ks.toArray) cur) 77 (0, 0)) := by
      show ((w.heap.modify g (onCells (putCells id 0 (flatK encB 258 ks.toArray)))) ++ os)[g]? = _
      rw [Array.getElem?_append_left (by simpa using hl), Array.getElem?_modify, if_pos rfl, hg]
      rfl
    have hsz : (putCells id 0 (flatK encB 258 ks.toArray) cur).size = cur.size := by simp [putCells]
    have hlen : (wrsC (ks.map Subtype.val)).length = n * 258 := by rw [wrsC_len, List.length_map, hk]
    refine ⟨⟨hlen, .inr ⟨g, cap, _, rfl, hb, hblk, hnc, hm, by rw [hsz]; exact hs, ?_⟩⟩, ⟨rfl, rfl, rfl, ?_, fun i hi hn2 => ?_⟩⟩
    · apply List.ext_getElem?
      intro j
      by_cases hj : j < n * 258
      · have hj2 : j < (flatK encB 258 ks.toArray).size := by rw [size_flatK]; simpa [hk] using hj
        have h2 := (hH j hj2).1
        rw [Nat.zero_add, getElem!_pos _ j hj2] at h2
        have h3 : (flatK encB 258 ks.toArray)[j]? = (wrsC (ks.map Subtype.val))[j]? := by rw [flatK_eq]; simp
        rw [Array.getElem?_eq_getElem hj2] at h3
        rw [← h3, List.getElem?_take, if_pos hj]
        simp only [World.cell?, hblk] at h2
        simpa using h2
      · rw [List.getElem?_eq_none (by rw [List.length_take]; omega), List.getElem?_eq_none (by rw [hlen]; omega)]
    · show w.heap.size ≤ ((w.heap.modify g _) ++ os).size
      rw [Array.size_append, Array.size_modify]; omega
    · show ((w.heap.modify g _) ++ os)[i]? = _
      rw [Array.getElem?_append_left (by simpa using hi), Array.getElem?_modify, if_neg (fun e => hn2 (by rw [← e]; simp))]
/-- slices.SortFunc of writes. -/
theorem sort_writes (l : List WrT) (hb : ∀ x ∈ l, x.no < 4611686018427387904) (base n : Nat) (v : Value) (w : World) (h : w.ownsRow base 77 258 v n (wrsC l)) (hn : l.length = n) (hn2 : n ≤ 4000000000) (hz : n = 0 → v = .slice none 0 0) :
    Calls Try.prog 34 #[v, .func (.func 35) #[] #[]] w fun e w' => e = .returned (.tuple #[]) ∧ ∃ l', l'.Perm l ∧ l'.Pairwise (fun a b => a.no ≤ b.no) ∧ w'.ownsRow base 77 258 v n (wrsC l') ∧ Fr v.ownBlock.toList w w' := by
  by_cases h0 : n = 0
  · have hv := hz h0
    subst hv; subst h0
    have hl : l = [] := List.eq_nil_of_length_eq_zero hn
    subst hl
    refine (AnyF.slices_SortFunc_none Try.sortf34 none 0 _ w).mono ?_
    rintro e w' ⟨rfl, rfl⟩
    exact ⟨rfl, [], List.Perm.refl _, List.Pairwise.nil, h, Fr.refl _ _⟩
  · obtain ⟨g, c, hv, -⟩ := own_nil h (by omega)
    subst hv
    obtain ⟨lb, hlb⟩ : ∃ lb : List WrB, lb.map Subtype.val = l := ⟨l.attach.map fun x => ⟨x.1, hb x.1 x.2⟩, by rw [List.map_map]; exact List.attach_map_subtype_val l⟩
    subst hlb
    rw [List.length_map] at hn
    have hS := AnyQ.slices_SortFunc Try.sortf34 258 Try.isAgg77 Try.sizeOf77 encB (fun x => wrL_len x.1) (fun x => wrL_one x.1) cfB cfB_swo 35 #[] g 0 c lb.toArray w
      (enters_of Try.func35 (by kernel_rfl) rfl) (fun _ _ _ _ x y => cmp_any x y _) (holds_writes h hn) (World.ownsRow.lt h g rfl).2 (by simp; omega)
    rw [List.size_toArray, hn] at hS
    refine hS.mono ?_
    rintro e w' ⟨rfl, d', m, os, hp, hs, rfl⟩
    have hps : d'.size = lb.length := by simpa using hp.1
    have hp3 := hp.2.2
    have hpl : d'.toList.Perm lb := by
      have e1 : d'.extract 0 n = d' := by rw [← hn, ← hps]; simp
      have e2 : lb.toArray.extract 0 n = lb.toArray := by rw [← hn]; simp
      rw [e1, e2] at hp3
      simpa using hp3
    have hd : d' = d'.toList.toArray := by simp
    rw [hd]
    obtain ⟨r1, r2⟩ := sorted_writes (ks := d'.toList) h hn (by simp [hps, hn]) m os
    refine ⟨rfl, d'.toList.map Subtype.val, hpl.map _, ?_, r1, r2⟩
    rw [List.pairwise_map, List.pairwise_iff_getElem]
    intro i j hi hj hij
    have h1 := hs i j (Nat.zero_le _) hij (by simp at hj; omega)
    unfold ltOf cfB at h1
    have h2 := of_decide_eq_false h1
    rw [getElem!_pos d' j (by simpa using hj), getElem!_pos d' i (by simpa using hi)] at h2
    simp only [Array.getElem_toList]
    omega
end Go.Proofs.Ytladknjmoahdoaa
