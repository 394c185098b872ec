/- Copies of a disk: what goes on in a round. -/
import Derived.Test.YtladknjmoahdoaaSorted
set_option linter.all false
namespace Go.Proofs.Ytladknjmoahdoaa
open Go.RowKit

def encP (b : Nat) : Value := .pointer (some ⟨b, 0, none⟩)
theorem encP_inj : ∀ x y, encP x = encP y → x = y := fun x y h => by
  injection h with h; injection h with h; injection h with h _ _
theorem encF_bl (es : List (ByteArray × FileM)) : menc encF es = menc encP (menc FileM.bl es) := by rw [menc_menc]; rfl
theorem perm_lift {α β : Type} (g : α → β) {a b : List β} (h : a.Perm b) : ∀ l : List α, l.map g = a → ∃ l2, l.Perm l2 ∧ l2.map g = b := by
  induction h with
  | nil => intro l hl; exact ⟨l, List.Perm.refl _, hl⟩
  | cons x _ ih =>
    intro l hl
    cases l with
    | nil => cases hl
    | cons y r =>
      rw [List.map_cons] at hl
      injection hl with h1 h2
      obtain ⟨l2, hp, he⟩ := ih r h2
      exact ⟨y :: l2, hp.cons y, by rw [List.map_cons, he, h1]⟩
  | swap x y r =>
    intro l hl
    match l, hl with
    | u :: v :: t, hl =>
      simp only [List.map_cons, List.cons.injEq] at hl
      obtain ⟨h1, h2, h3⟩ := hl
      exact ⟨v :: u :: t, List.Perm.swap .., by simp [h1, h2, h3]⟩
  | trans _ _ ih1 ih2 =>
    intro l hl
    obtain ⟨l2, hp, he⟩ := ih1 l hl
    obtain ⟨l3, hp3, he3⟩ := ih2 l2 he
    exact ⟨l3, hp.trans hp3, he3⟩
/-- The next file of a range, as it lies. -/
theorem next_file {td : List (ByteArray × FileM)} {k : ByteArray} {b : Nat} {td' : List (ByteArray × Nat)} (h : (menc FileM.bl td).Perm ((k, b) :: td')) : ∃ x tx, td.Perm ((k, x) :: tx) ∧ x.bl = b ∧ td' = menc FileM.bl tx := by
  obtain ⟨l2, hp, he⟩ := perm_lift (fun p : ByteArray × FileM => (p.1, p.2.bl)) h td rfl
  cases l2 with
  | nil => cases he
  | cons q r =>
    rw [List.map_cons] at he
    injection he with h1 h2
    injection h1 with h1 h3
    exact ⟨q.2, r, by rw [← h1]; exact hp, h3, h2.symm⟩
/-- A disk is another one, up to the order in which its files are kept. -/
def EqvD (d d2 : DiskT) : Prop := d2.files.Perm d.files ∧ d2 = { d with files := d2.files }
theorem EqvD.refl (d : DiskT) : EqvD d d := ⟨List.Perm.refl _, rfl⟩
theorem EqvD.inv {d d2 : DiskT} (h : EqvD d d2) (hi : Inv d) : Inv d2 := by
  obtain ⟨hp, he⟩ := h
  have hf := hi.f.perm hp.symm
  rw [he]
  exact Inv.of hf (by show d2.files.length ≤ 256; rw [hp.length_eq]; exact hi.count) (by show d.used = sumN d2.files; rw [sumN_perm hp]; exact hi.sum) hi.within hi.quota hi.no hi.set hi.off
/-- What a copy tells. -/
def CopyDP (w : World) (d : DiskT) (e : Ending) (w' : World) : Prop := ∃ q m sb es d2, e = .returned (.pointer (some ⟨q, 0, none⟩)) ∧ DiskAt w' q m sb es d2 ∧ EqvD d d2 ∧ Below w.heap.size w w' ∧ ∀ i ∈ fpD q m sb es, w.heap.size ≤ i
/-- The copy under way: the new files' rows lie among the new blocks. -/
structure Under (w : World) (q m2 N : Nat) (es2 : List (ByteArray × FileM)) : Prop where
  map : SMap w m2 (menc encF es2)
  files : ∀ e ∈ es2, FileAt w e.2
  apart : (fpF es2).Nodup
  lo : ∀ i ∈ fpF es2, N ≤ i
theorem Under.lt {w : World} {q m2 N : Nat} {es2 : List (ByteArray × FileM)} (h : Under w q m2 N es2) : ∀ i ∈ fpF es2, i < w.heap.size := fun i hi => by
  obtain ⟨e, he, hx⟩ := List.mem_flatMap.1 hi
  exact (h.files e he).lt i hx
theorem Under.add {F : List Nat} {w w' : World} {q m2 N : Nat} {es2 : List (ByteArray × FileM)} (h : Under w q m2 N es2) {k : ByteArray} {x : FileM} (hk : mget es2 k = none) (hf : Fr F w w') (hF : ∀ i ∈ F, i < N) (hx : FileAt w' x) (hlo : ∀ i ∈ x.fp, w.heap.size ≤ i) (hN : N ≤ w.heap.size) (hm : SMap w' m2 (mset (menc encF es2) k (encF x))) :
    Under w' q m2 N (mset es2 k x) ∧ menc FileM.f (mset es2 k x) = menc FileM.f es2 ++ [(k, x.f)] := by
  have hp := perm_set es2 k x
  rw [mdel_of_none hk] at hp
  refine ⟨⟨by rw [← mset_menc]; exact hm, ?_, ?_, ?_⟩, ?_⟩
  · intro e he
    rcases List.mem_cons.1 (hp.mem_iff.1 he) with rfl | he
    · exact hx
    · exact (h.files e he).fr hf fun i hi hiF => by
        have h1 := h.lo i (List.mem_flatMap.2 ⟨e, he, hi⟩)
        have h2 := hF i hiF
        omega
  · refine ((fpF_perm hp).nodup_iff).2 ?_
    rw [fpF_cons, List.nodup_append]
    refine ⟨hx.apart, h.apart, fun a ha b hb e => ?_⟩
    subst e
    have h1 := hlo a ha
    have h2 := h.lt a hb
    omega
  · intro i hi
    have := (fpF_perm hp).mem_iff.1 hi
    rw [fpF_cons] at this
    rcases List.mem_append.1 this with h1 | h1
    · exact Nat.le_trans hN (hlo i h1)
    · exact h.lo i h1
  · have hno : ∀ p ∈ es2, p.1 ≠ k := fun p hp2 e => by
      have := mget_isSome.2 (show k ∈ es2.map Prod.fst from List.mem_map.2 ⟨p, hp2, e⟩)
      rw [hk] at this; cases this
    rw [mset_new hno]
    simp [menc]
/-- A file copied: its three rows one behind the other, its block, and the map. -/
theorem copy_file {w2 V0 V1 V2 V3 w5 : World} {m2 : Nat} {f : FileT} {v1 v2 v3 : Value} (hb0 : Below w2.heap.size w2 V0) (c1 : CopyP V0 75 256 f.now.length (pagesC f.now) v1 V1) (c2 : CopyP V1 75 256 f.settled.length (pagesC f.settled) v2 V2) (c3 : CopyP V2 77 258 f.opens.length (wrsC f.opens) v3 V3)
    (hm : m2 < w2.heap.size) (hg : (V3.alloc (.cells #[v1, v2, v3] 73)).grownBy w5 (some m2)) :
    FileAt w5 ⟨V3.heap.size, v1, v2, v3, f⟩ ∧ (∀ i ∈ (⟨V3.heap.size, v1, v2, v3, f⟩ : FileM).fp, w2.heap.size ≤ i) ∧ Fr [m2] w2 w5 := by
  have s0 := hb0.size
  have s1 := c1.below.size
  have s2 := c2.below.size
  have s3 := c3.below.size
  have hb4 := one_below V3 (.cells #[v1, v2, v3] 73)
  have hf5 : Fr [m2] (V3.alloc (.cells #[v1, v2, v3] 73)) w5 := Fr.grown hg fun k hk _ => by injection hk with hk; simp [hk]
  have hf3 : Fr [m2] V3 w5 := (Fr.below hb4).and hf5
  have hf2 : Fr [m2] V2 w5 := (Fr.below c3.below).and hf3
  have hf1 : Fr [m2] V1 w5 := (Fr.below c2.below).and hf2
  have hf0 : Fr [m2] V0 w5 := (Fr.below c1.below).and hf1
  have l1 := fun g hg => World.ownsRow.lt c1.own g hg
  have l2 := fun g hg => World.ownsRow.lt c2.own g hg
  have l3 := fun g hg => World.ownsRow.lt c3.own g hg
  refine ⟨⟨hf5.kept (by simp; omega) (Go.heap_alloc_new V3 _), own_to (own_fr c1.own hf1 fun g hg => ?_) (Nat.zero_le _), own_to (own_fr c2.own hf2 fun g hg => ?_) (Nat.zero_le _), own_to (own_fr c3.own hf3 fun g hg => ?_) (Nat.zero_le _), c1.nil, c2.nil, c3.nil, fp_nodup (fun g hg => ?_) (fun g hg => ?_) (fun g hg => ?_) (fun g hg e => ?_) (fun g hg e => ?_) (fun g hg e => ?_)⟩, fun i hi => ?_, (Fr.below hb0).and hf0⟩
  · have := l1 g hg; simp; omega
  · have := l2 g hg; simp; omega
  · have := l3 g hg; simp; omega
  · have := l1 g hg; show g ≠ V3.heap.size; omega
  · have := l2 g hg; show g ≠ V3.heap.size; omega
  · have := l3 g hg; show g ≠ V3.heap.size; omega
  · have := l1 g hg; have := l2 g e; omega
  · have := l1 g hg; have := l3 g e; omega
  · have := l2 g hg; have := l3 g e; omega
  · rcases FileM.mem_fp.1 hi with e | e | e | e
    · have e' : i = V3.heap.size := e
      omega
    · have := l1 i e; omega
    · have := l2 i e; omega
    · have := l3 i e; omega
/-- The copy is a disk. -/
theorem copy_end {w w' : World} {q N : Nat} {sb : Option Nat} {es es2 dn : List (ByteArray × FileM)} {d : DiskT} {s : Option (Nat × Nat)} (hq : q = w.heap.size) (hu : Under w' q (q + 1) N es2) (hN : q + 1 < N) (hfs : menc FileM.f es2 = menc FileM.f dn) (hp : es.Perm dn) (he : d.files = menc FileM.f es) (hs : d.set = s)
    (hset : SetAt w' sb s) (hsb : ∀ b, sb = some b → N ≤ b ∧ b ∉ fpF es2) (hblk : w'.heap[q]? = some (.cells (headC (q + 1) sb d) 48)) (hb : Below w.heap.size w w') : CopyDP w d (.returned (.pointer (some ⟨q, 0, none⟩))) w' := by
  refine ⟨q, q + 1, sb, es2, { d with files := menc FileM.f es2 }, rfl, ⟨hblk, hu.map, hu.files, rfl, by show SetAt w' sb d.set; rw [hs]; exact hset, ?_⟩, ⟨?_, rfl⟩, hb, ?_⟩
  · unfold fpD
    have hlo := hu.lo
    rw [List.nodup_append]
    refine ⟨?_, hu.apart, fun a ha b hb e => ?_⟩
    · cases sb with
      | none => simp
      | some b => have := hsb b rfl; simp; omega
    · subst e
      have h1 := hlo a hb
      simp only [List.mem_cons, Option.mem_toList] at ha
      rcases ha with e | e | e
      · omega
      · omega
      · exact (hsb a e).2 hb
  · show (menc FileM.f es2).Perm d.files
    rw [hfs, he]
    exact (hp.map _).symm
  · intro i hi
    simp only [fpD, List.cons_append, List.mem_cons, List.mem_append, Option.mem_toList] at hi
    rcases hi with e | e | e | e
    · omega
    · omega
    · have := (hsb i e).1; omega
    · have := hu.lo i e; omega
end Go.Proofs.Ytladknjmoahdoaa
