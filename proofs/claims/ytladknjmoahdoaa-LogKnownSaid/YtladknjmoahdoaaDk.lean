/- A disk in memory: its block, its map, its failure, its files. -/
import Derived.Test.YtladknjmoahdoaaFr
import Derived.Test.YtladknjmoahdoaaChecked
set_option linter.all false
namespace Go.Proofs.Ytladknjmoahdoaa
open Go.RowKit

/-- A file's place and what it holds. -/
structure FileM where
  bl : Nat
  vn : Value
  vs : Value
  vo : Value
  f : FileT
def FileM.fp (x : FileM) : List Nat := x.bl :: (x.vn.ownBlock.toList ++ (x.vs.ownBlock.toList ++ x.vo.ownBlock.toList))
def encF (x : FileM) : Value := .pointer (some ⟨x.bl, 0, none⟩)
structure FileAt (w : World) (x : FileM) : Prop where
  blk : w.heap[x.bl]? = some (.cells #[x.vn, x.vs, x.vo] 73)
  now : w.ownsRow 0 75 256 x.vn x.f.now.length (pagesC x.f.now)
  settled : w.ownsRow 0 75 256 x.vs x.f.settled.length (pagesC x.f.settled)
  opens : w.ownsRow 0 77 258 x.vo x.f.opens.length (wrsC x.f.opens)
  zn : x.f.now.length = 0 → x.vn = .slice none 0 0
  zs : x.f.settled.length = 0 → x.vs = .slice none 0 0
  zo : x.f.opens.length = 0 → x.vo = .slice none 0 0
  apart : x.fp.Nodup
theorem FileM.mem_fp {x : FileM} {i : Nat} : i ∈ x.fp ↔ i = x.bl ∨ x.vn.ownBlock = some i ∨ x.vs.ownBlock = some i ∨ x.vo.ownBlock = some i := by
  simp [FileM.fp]
theorem FileAt.lt {w : World} {x : FileM} (h : FileAt w x) : ∀ i ∈ x.fp, i < w.heap.size := by
  intro i hi
  rcases FileM.mem_fp.1 hi with rfl | hi | hi | hi
  · exact lt_of_block h.blk
  · exact (World.ownsRow.lt h.now i hi).2
  · exact (World.ownsRow.lt h.settled i hi).2
  · exact (World.ownsRow.lt h.opens i hi).2
theorem FileAt.fr {F : List Nat} {w w' : World} {x : FileM} (h : FileAt w x) (hf : Fr F w w') (hF : ∀ i ∈ x.fp, i ∉ F) : FileAt w' x :=
  ⟨hf.kept (hF _ (FileM.mem_fp.2 (.inl rfl))) h.blk, own_fr h.now hf fun g hg => hF g (FileM.mem_fp.2 (.inr (.inl hg))), own_fr h.settled hf fun g hg => hF g (FileM.mem_fp.2 (.inr (.inr (.inl hg)))),
   own_fr h.opens hf fun g hg => hF g (FileM.mem_fp.2 (.inr (.inr (.inr hg)))), h.zn, h.zs, h.zo, h.apart⟩
def fpF (es : List (ByteArray × FileM)) : List Nat := es.flatMap fun e => e.2.fp
def fpD (p m : Nat) (sb : Option Nat) (es : List (ByteArray × FileM)) : List Nat := (p :: m :: sb.toList) ++ fpF es
theorem fpF_cons (e : ByteArray × FileM) (es : List (ByteArray × FileM)) : fpF (e :: es) = e.2.fp ++ fpF es := by simp [fpF]
theorem fpF_append (es r : List (ByteArray × FileM)) : fpF (es ++ r) = fpF es ++ fpF r := by simp [fpF]
theorem fpF_perm {es r : List (ByteArray × FileM)} (h : es.Perm r) : (fpF es).Perm (fpF r) := h.flatMap_right _
/-- A failure that is set. -/
def SetAt (w : World) : Option Nat → Option (Nat × Nat) → Prop
  | none, none => True
  | some b, some (i, k) => w.heap[b]? = some (.cells #[.int .i64 i, .int .u64 k] 65)
  | _, _ => False
def setV (sb : Option Nat) : Value := .pointer (sb.map fun b => ⟨b, 0, none⟩)
def headC (m : Nat) (sb : Option Nat) (d : DiskT) : Array Value := #[.map (some m), .int .i64 d.quota, .int .i64 d.used, .int .i64 d.steps, .int .i64 d.no, setV sb, .bool d.off]
structure DiskAt (w : World) (p m : Nat) (sb : Option Nat) (es : List (ByteArray × FileM)) (d : DiskT) : Prop where
  blk : w.heap[p]? = some (.cells (headC m sb d) 48)
  map : SMap w m (menc encF es)
  files : ∀ e ∈ es, FileAt w e.2
  eq : d.files = menc FileM.f es
  set : SetAt w sb d.set
  apart : (fpD p m sb es).Nodup
theorem SetAt.lt {w : World} {sb : Option Nat} {s : Option (Nat × Nat)} (h : SetAt w sb s) : ∀ b, sb = some b → b < w.heap.size := by
  rintro b rfl
  rcases s with _ | ⟨i, k⟩
  · exact h.elim
  · exact lt_of_block h
theorem SetAt.fr {F : List Nat} {w w' : World} {sb : Option Nat} {s : Option (Nat × Nat)} (h : SetAt w sb s) (hf : Fr F w w') (hF : ∀ b, sb = some b → b ∉ F) : SetAt w' sb s := by
  rcases sb with _ | b <;> rcases s with _ | ⟨i, k⟩
  · trivial
  · exact h.elim
  · exact h.elim
  · exact hf.kept (hF b rfl) h
theorem DiskAt.lt {w : World} {p m : Nat} {sb : Option Nat} {es : List (ByteArray × FileM)} {d : DiskT} (h : DiskAt w p m sb es d) : ∀ i ∈ fpD p m sb es, i < w.heap.size := by
  intro i hi
  simp only [fpD, List.cons_append, List.mem_cons, List.mem_append, Option.mem_toList] at hi
  rcases hi with rfl | rfl | hi | hi
  · exact lt_of_block h.blk
  · exact h.map.lt
  · exact h.set.lt i hi
  · obtain ⟨e, he, hx⟩ := List.mem_flatMap.1 hi
    exact (h.files e he).lt i hx
theorem mem_p {p m : Nat} {sb : Option Nat} {es : List (ByteArray × FileM)} : p ∈ fpD p m sb es := by simp [fpD]
theorem mem_m {p m : Nat} {sb : Option Nat} {es : List (ByteArray × FileM)} : m ∈ fpD p m sb es := by simp [fpD]
theorem mem_sb {p m b : Nat} {sb : Option Nat} {es : List (ByteArray × FileM)} (h : sb = some b) : b ∈ fpD p m sb es := by simp [fpD, h]
theorem mem_file {p m i : Nat} {sb : Option Nat} {es : List (ByteArray × FileM)} {e : ByteArray × FileM} (he : e ∈ es) (hi : i ∈ e.2.fp) : i ∈ fpD p m sb es :=
  List.mem_append_right _ (List.mem_flatMap.2 ⟨e, he, hi⟩)
theorem DiskAt.fr {F : List Nat} {w w' : World} {p m : Nat} {sb : Option Nat} {es : List (ByteArray × FileM)} {d : DiskT} (h : DiskAt w p m sb es d) (hf : Fr F w w') (hF : ∀ i ∈ fpD p m sb es, i ∉ F) : DiskAt w' p m sb es d :=
  ⟨hf.kept (hF p mem_p) h.blk, h.map.fr hf (hF m mem_m), fun e he => (h.files e he).fr hf fun i hi => hF i (mem_file he hi), h.eq, h.set.fr hf fun b hb => hF b (mem_sb hb), h.apart⟩
theorem DiskAt.below {w w' : World} {p m : Nat} {sb : Option Nat} {es : List (ByteArray × FileM)} {d : DiskT} (h : DiskAt w p m sb es d) (hb : Below w.heap.size w w') : DiskAt w' p m sb es d :=
  h.fr (Fr.below (F := []) hb) fun _ _ => by simp
theorem DiskAt.alloc {w : World} {p m : Nat} {sb : Option Nat} {es : List (ByteArray × FileM)} {d : DiskT} (h : DiskAt w p m sb es d) (o : Obj) : DiskAt (w.alloc o) p m sb es d := h.below ((Below.refl _ _).alloc (Nat.le_refl _) o)
theorem DiskAt.cell {w : World} {p m : Nat} {sb : Option Nat} {es : List (ByteArray × FileM)} {d : DiskT} (h : DiskAt w p m sb es d) :
    w.cell? ⟨p, 0, none⟩ = some (.map (some m)) ∧ w.cell? ⟨p, 1, none⟩ = some (.int .i64 d.quota) ∧ w.cell? ⟨p, 2, none⟩ = some (.int .i64 d.used) ∧ w.cell? ⟨p, 3, none⟩ = some (.int .i64 d.steps) ∧ w.cell? ⟨p, 4, none⟩ = some (.int .i64 d.no) ∧ w.cell? ⟨p, 5, none⟩ = some (setV sb) ∧ w.cell? ⟨p, 6, none⟩ = some (.bool d.off) :=
  ⟨cell_of (j := 0) h.blk rfl, cell_of (j := 1) h.blk rfl, cell_of (j := 2) h.blk rfl, cell_of (j := 3) h.blk rfl, cell_of (j := 4) h.blk rfl, cell_of (j := 5) h.blk rfl, cell_of (j := 6) h.blk rfl⟩
theorem DiskAt.free {w : World} {p m : Nat} {sb : Option Nat} {es : List (ByteArray × FileM)} {d : DiskT} (h : DiskAt w p m sb es d) (j : Nat) : w.frozen? ⟨p, j, none⟩ = false := free_of h.blk j
theorem FileAt.cell {w : World} {x : FileM} (h : FileAt w x) : w.cell? ⟨x.bl, 0, none⟩ = some x.vn ∧ w.cell? ⟨x.bl, 1, none⟩ = some x.vs ∧ w.cell? ⟨x.bl, 2, none⟩ = some x.vo :=
  ⟨cell_of (j := 0) h.blk rfl, cell_of (j := 1) h.blk rfl, cell_of (j := 2) h.blk rfl⟩
theorem FileAt.free {w : World} {x : FileM} (h : FileAt w x) (j : Nat) : w.frozen? ⟨x.bl, j, none⟩ = false := free_of h.blk j
theorem nodup_swap {A X X' R : List Nat} {N : Nat} (h : (A ++ (X ++ R)).Nodup) (hX : X'.Nodup) (hin : ∀ i ∈ X', i ∈ X ∨ N ≤ i) (hlt : ∀ i ∈ A ++ R, i < N) : (A ++ (X' ++ R)).Nodup := by
  simp only [List.nodup_append, List.mem_append] at h hlt ⊢
  obtain ⟨hA, ⟨hX0, hR, hXR⟩, hAX⟩ := h
  refine ⟨hA, ⟨hX, hR, fun a ha b hb e => ?_⟩, fun a ha b hb e => ?_⟩
  · subst e
    rcases hin a ha with h1 | h1
    · exact hXR a h1 a hb rfl
    · have := hlt a (.inr hb); omega
  · subst e
    rcases hb with hb | hb
    · rcases hin a hb with h1 | h1
      · exact hAX a ha a (.inl h1) rfl
      · have := hlt a (.inl ha); omega
    · exact hAX a ha a (.inr hb) rfl
/-- Some files go, others come. -/
theorem DiskAt.swap {F : List Nat} {w w' : World} {p m : Nat} {sb : Option Nat} {es es' old new rest : List (ByteArray × FileM)} {d d' : DiskT} (h : DiskAt w p m sb es d)
    (h1 : es.Perm (old ++ rest)) (h2 : es'.Perm (new ++ rest)) (hnew : ∀ e ∈ new, FileAt w' e.2) (hN : (fpF new).Nodup) (hin : ∀ i ∈ fpF new, i ∈ fpF old ∨ w.heap.size ≤ i)
    (hf : Fr F w w') (hF : ∀ i ∈ F, i = p ∨ i = m ∨ i ∈ fpF old ∨ w.heap.size ≤ i) (hblk : w'.heap[p]? = some (.cells (headC m sb d') 48)) (hmap : SMap w' m (menc encF es')) (heq : d'.files = menc FileM.f es') (hset : d'.set = d.set) :
    DiskAt w' p m sb es' d' := by
  have hp : ((p :: m :: sb.toList) ++ (fpF old ++ fpF rest)).Nodup := by
    have := (((fpF_perm h1).append_left (p :: m :: sb.toList)).nodup_iff).1 h.apart
    rwa [fpF_append] at this
  have hlt : ∀ i ∈ (p :: m :: sb.toList) ++ fpF rest, i < w.heap.size := by
    intro i hi
    refine h.lt i ?_
    rcases List.mem_append.1 hi with hi | hi
    · exact List.mem_append_left _ hi
    · exact List.mem_append_right _ ((fpF_perm h1).mem_iff.2 (by rw [fpF_append]; exact List.mem_append_right _ hi))
  have hp2 := hp
  rw [List.nodup_append] at hp2
  obtain ⟨hA, hOR, hAO⟩ := hp2
  rw [List.nodup_append] at hOR
  obtain ⟨-, -, hOR⟩ := hOR
  have hrF : ∀ i ∈ fpF rest, i ∉ F := by
    intro i hi hiF
    rcases hF i hiF with e | e | e | e
    · exact hAO p (by simp) i (List.mem_append_right _ hi) e.symm
    · exact hAO m (by simp) i (List.mem_append_right _ hi) e.symm
    · exact hOR i e i hi rfl
    · have := hlt i (List.mem_append_right _ hi); omega
  have hsF : ∀ b, sb = some b → b ∉ F := by
    intro b hb hbF
    subst hb
    rw [List.nodup_cons, List.nodup_cons] at hA
    rcases hF b hbF with e | e | e | e
    · exact hA.1 (by simp [e])
    · exact hA.2.1 (by simp [e])
    · exact hAO b (by simp) b (List.mem_append_left _ e) rfl
    · have := hlt b (by simp); omega
  refine ⟨hblk, hmap, ?_, heq, by rw [hset]; exact h.set.fr hf hsF, ?_⟩
  · intro e he
    rcases List.mem_append.1 (h2.mem_iff.1 he) with hn | hr
    · exact hnew e hn
    · exact (h.files e (h1.mem_iff.2 (List.mem_append_right _ hr))).fr hf fun i hi => hrF i (List.mem_flatMap.2 ⟨e, hr, hi⟩)
  · refine (((fpF_perm h2).append_left (p :: m :: sb.toList)).nodup_iff).2 ?_
    rw [fpF_append]
    exact nodup_swap hp hN hin hlt
/-- What is new of the blocks that a disk lies in. -/
def NewFp (N : Nat) (F G : List Nat) : Prop := ∀ i ∈ G, i ∈ F ∨ N ≤ i
theorem NewFp.refl (N : Nat) (F : List Nat) : NewFp N F F := fun _ hi => .inl hi
theorem NewFp.trans {N M : Nat} {F G H : List Nat} (h : NewFp N F G) (h' : NewFp M G H) (hNM : N ≤ M) : NewFp N F H := fun i hi => by
  rcases h' i hi with h1 | h1
  · exact h i h1
  · exact .inr (by omega)
theorem newFp_swap {N p m : Nat} {sb : Option Nat} {es es' old new rest : List (ByteArray × FileM)} (h1 : es.Perm (old ++ rest)) (h2 : es'.Perm (new ++ rest)) (hin : ∀ i ∈ fpF new, i ∈ fpF old ∨ N ≤ i) : NewFp N (fpD p m sb es) (fpD p m sb es') := by
  intro i hi
  rcases List.mem_append.1 hi with hi | hi
  · exact .inl (List.mem_append_left _ hi)
  · have := (fpF_perm h2).mem_iff.1 hi
    rw [fpF_append] at this
    rcases List.mem_append.1 this with h | h
    · rcases hin i h with h | h
      · exact .inl (List.mem_append_right _ ((fpF_perm h1).mem_iff.2 (by rw [fpF_append]; exact List.mem_append_left _ h)))
      · exact .inr h
    · exact .inl (List.mem_append_right _ ((fpF_perm h1).mem_iff.2 (by rw [fpF_append]; exact List.mem_append_right _ h)))
/-- What a call of a disk leaves. -/
structure OpL (w : World) (p m : Nat) (sb : Option Nat) (es : List (ByteArray × FileM)) (d' : DiskT) (sb' : Option Nat) (es' : List (ByteArray × FileM)) (w' : World) : Prop where
  at_ : DiskAt w' p m sb' es' d'
  fr : Fr (fpD p m sb es) w w'
  new : NewFp w.heap.size (fpD p m sb es) (fpD p m sb' es')
/-- What a call answers and leaves. -/
def OpP (w : World) (p m : Nat) (sb : Option Nat) (es : List (ByteArray × FileM)) (r : Int × DiskT) (e : Ending) (w' : World) : Prop :=
  e = .returned (.int .i64 r.1) ∧ ∃ es', OpL w p m sb es r.2 sb es' w'
theorem OpP.same {w w' : World} {p m : Nat} {sb : Option Nat} {es : List (ByteArray × FileM)} {d : DiskT} {err : Int} (h : DiskAt w p m sb es d) (hb : Below w.heap.size w w') : OpP w p m sb es (err, d) (.returned (.int .i64 err)) w' :=
  ⟨rfl, es, h.below hb, Fr.below hb, NewFp.refl _ _⟩
theorem look_files {w : World} {p m : Nat} {sb : Option Nat} {es : List (ByteArray × FileM)} {d : DiskT} (h : DiskAt w p m sb es d) (name : ByteArray) (ok : Bool) :
    (Instr.lookup 45 (.map (some m)) (.string name) ok).run Try.prog w = .ok (if ok then .tuple #[(mget (menc encF es) name).getD (.pointer none), .bool (mget (menc encF es) name).isSome] else (mget (menc encF es) name).getD (.pointer none)) w :=
  h.map.look Try.underlying45 Try.underlying9 (Try.zeroValue68 w) name ok
theorem DiskAt.get {w : World} {p m : Nat} {sb : Option Nat} {es : List (ByteArray × FileM)} {d : DiskT} (h : DiskAt w p m sb es d) (name : ByteArray) : mget d.files name = (mget es name).map FileM.f := by rw [h.eq, mget_menc]
end Go.Proofs.Ytladknjmoahdoaa
