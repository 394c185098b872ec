/- A disk in plain Lean: pages, files, what is laid; what each call answers and leaves. -/
import Derived.Test.YtladknjmoahdoaaMaps
set_option linter.all false
namespace Go.Proofs.Ytladknjmoahdoaa

/-- A page: 256 bytes. -/
structure PageT where
  b : List UInt8
  len : b.length = 256
theorem PageT.ext' {p q : PageT} (h : p.b = q.b) : p = q := by cases p; cases q; cases h; rfl
def zeroP : PageT := ⟨List.replicate 256 0, List.length_replicate ..⟩
/-- A page that begins with these bytes. -/
def padP (b : List UInt8) : PageT := ⟨(b ++ List.replicate 256 0).take 256, by rw [List.length_take, List.length_append, List.length_replicate]; omega⟩
theorem padP_b {b : List UInt8} (h : b.length ≤ 256) : (padP b).b = b ++ List.replicate (256 - b.length) 0 := by
  unfold padP
  simp only [List.take_append]
  rw [List.take_of_length_le h, List.take_replicate, Nat.min_eq_left (by omega)]
/-- A page laid down; pages of noughts fill a gap. -/
def layP (l : List PageT) (k : Nat) (p : PageT) : List PageT := (l ++ List.replicate (k + 1 - l.length) zeroP).set k p
theorem layP_len (l : List PageT) (k : Nat) (p : PageT) : (layP l k p).length = max l.length (k + 1) := by
  unfold layP
  rw [List.length_set, List.length_append, List.length_replicate]
  omega
theorem layP_in {l : List PageT} {k : Nat} (h : k < l.length) (p : PageT) : layP l k p = l.set k p := by
  unfold layP
  rw [show k + 1 - l.length = 0 by omega]
  simp
theorem layP_end (l : List PageT) (p : PageT) : layP l l.length p = l ++ [p] := by
  unfold layP
  rw [show l.length + 1 - l.length = 1 by omega]
  simp
/-- An open write: its number over all, its page's place, the page. -/
structure WrT where
  no : Nat
  place : Nat
  page : PageT
/-- A file: what it holds now, what is settled, what is open. -/
structure FileT where
  now : List PageT
  settled : List PageT
  opens : List WrT
def file0 : FileT := ⟨[], [], []⟩
/-- What a file's open writes make of what is settled. -/
def laidP (l : List PageT) (ws : List WrT) : List PageT := ws.foldl (fun l w => layP l w.place w.page) l
theorem laidP_nil (l : List PageT) : laidP l [] = l := rfl
theorem laidP_snoc (l : List PageT) (ws : List WrT) (w : WrT) : laidP l (ws ++ [w]) = layP (laidP l ws) w.place w.page := by
  unfold laidP
  rw [List.foldl_append]; rfl
theorem laidP_ge (ws : List WrT) : ∀ l : List PageT, l.length ≤ (laidP l ws).length := by
  induction ws with
  | nil => intro l; exact Nat.le_refl _
  | cons w r ih =>
    intro l
    have h1 := ih (layP l w.place w.page)
    rw [layP_len] at h1
    show l.length ≤ (laidP (layP l w.place w.page) r).length
    omega
/-- Fewer writes make no more pages. -/
theorem laidP_sub {ws vs : List WrT} (h : vs.Sublist ws) : ∀ {l m : List PageT}, m.length ≤ l.length → (laidP m vs).length ≤ (laidP l ws).length := by
  induction h with
  | slnil => intro l m h; exact h
  | cons w _ ih =>
    intro l m h
    show _ ≤ (laidP (layP l w.place w.page) _).length
    exact ih (by rw [layP_len]; omega)
  | cons_cons w _ ih =>
    intro l m h
    show (laidP (layP m w.place w.page) _).length ≤ (laidP (layP l w.place w.page) _).length
    exact ih (by rw [layP_len, layP_len]; omega)
/-- A disk. -/
structure DiskT where
  files : List (ByteArray × FileT)
  quota : Nat
  used : Nat
  steps : Nat
  no : Nat
  set : Option (Nat × Nat)
  off : Bool
def newD (quota : Int) : DiskT := ⟨[], min (max quota 0).toNat 65536, 0, 0, 0, none, false⟩
def namedB (s : ByteArray) : Bool := decide (1 ≤ s.size ∧ s.size ≤ 100)
/-- A step: does it happen, and what is left. -/
def stepD (d : DiskT) : Bool × DiskT :=
  match d.set with
  | none => (true, { d with steps := d.steps + 1 })
  | some (0, _) => (false, { d with off := true })
  | some (i + 1, k) => (true, { d with steps := d.steps + 1, set := some (i, k) })
/-- What a call answers and leaves: a step, and then this. -/
def stepsD (d : DiskT) (f : DiskT → DiskT) : Int × DiskT := if (stepD d).1 = true then (0, f (stepD d).2) else (7, (stepD d).2)
def sumN (l : List (ByteArray × FileT)) : Nat := (l.map fun p => p.2.now.length).sum
def createD (d : DiskT) (name : ByteArray) : Int × DiskT :=
  if d.off = true then (7, d)
  else if namedB name = false then (2, d)
  else if (mget d.files name).isSome = true then (90, d)
  else if 256 ≤ d.files.length then (3, d)
  else stepsD d fun d => { d with files := mset d.files name file0 }
/-- A file that is found, or the error. -/
def findD (d : DiskT) (name : ByteArray) : Int ⊕ FileT :=
  if d.off = true then .inl 7 else match mget d.files name with | none => .inl 91 | some f => .inr f
def goneD (d : DiskT) (name : ByteArray) : DiskT :=
  match mget d.files name with
  | none => d
  | some f => { d with used := d.used - f.now.length, files := mdel d.files name }
def removeD (d : DiskT) (name : ByteArray) : Int × DiskT :=
  match findD d name with
  | .inl e => (e, d)
  | .inr _ => stepsD d fun d => goneD d name
def renameD (d : DiskT) (src dst : ByteArray) : Int × DiskT :=
  match findD d src with
  | .inl e => (e, d)
  | .inr f => if namedB dst = false then (2, d) else stepsD d fun d => if src = dst then d else { goneD d dst with files := mset (mdel (goneD d dst).files src) dst f }
def writeD (d : DiskT) (name : ByteArray) (at_ : Int) (b : List UInt8) : Int × DiskT :=
  match findD d name with
  | .inl e => (e, d)
  | .inr f =>
    if 256 < b.length then (2, d)
    else if at_ < 0 ∨ (f.now.length : Int) < at_ then (92, d)
    else if at_ = f.now.length ∧ d.quota ≤ d.used then (93, d)
    else stepsD d fun d => { d with used := if at_ = f.now.length then d.used + 1 else d.used, no := d.no + 1,
                                    files := mset d.files name ⟨layP f.now at_.toNat (padP b), f.settled, f.opens ++ [⟨d.no, at_.toNat, padP b⟩]⟩ }
def syncD (d : DiskT) (name : ByteArray) : Int × DiskT :=
  match findD d name with
  | .inl e => (e, d)
  | .inr f => stepsD d fun d => { d with files := mset d.files name ⟨f.now, f.now, []⟩ }
def lenD (d : DiskT) (name : ByteArray) : Int × Nat :=
  match findD d name with
  | .inl e => (e, 0)
  | .inr f => (0, f.now.length)
def readD (d : DiskT) (name : ByteArray) (at_ : Int) : Int × Option PageT :=
  match findD d name with
  | .inl e => (e, none)
  | .inr f => if at_ < 0 then (92, none) else match f.now[at_.toNat]? with | none => (92, none) | some p => (0, some p)
def failD (d : DiskT) (n : Int) (keep : Nat) : DiskT := if d.off = true then d else { d with set := some ((max n 0).toNat, keep) }
/-- All open writes. -/
def opensD (d : DiskT) : List WrT := d.files.flatMap fun p => p.2.opens
/-- How many open writes are elder. -/
def rankW (l : List WrT) (n : Nat) : Nat := (l.filter fun w => decide (w.no < n)).length
def bitB (keep n : Nat) : Bool := decide (keep >>> (n % 64) % 2 = 1)
/-- What stays of a file. -/
def stayF (all : List WrT) (keep : Nat) (f : FileT) : List PageT := laidP f.settled (f.opens.filter fun w => bitB keep (rankW all w.no))
def onF (all : List WrT) (keep : Nat) (f : FileT) : FileT := ⟨stayF all keep f, stayF all keep f, []⟩
def onD (d : DiskT) : DiskT :=
  if d.off = false then d
  else
    let fs := d.files.map fun p => (p.1, onF (opensD d) ((d.set.map Prod.snd).getD 0) p.2)
    { d with files := fs, used := sumN fs, off := false, set := none }
/-- What holds of a disk at any time. -/
structure FileT.Ok (f : FileT) (no : Nat) : Prop where
  now : f.now = laidP f.settled f.opens
  rise : (f.opens.map WrT.no).Pairwise (· < ·)
  lt : ∀ w ∈ f.opens, w.no < no
structure Inv (d : DiskT) : Prop where
  nodup : (d.files.map Prod.fst).Nodup
  names : ∀ p ∈ d.files, namedB p.1 = true
  count : d.files.length ≤ 256
  sum : d.used = sumN d.files
  within : d.used ≤ d.quota
  quota : d.quota ≤ 65536
  files : ∀ p ∈ d.files, p.2.Ok d.no
  apart : ((opensD d).map WrT.no).Nodup
  no : d.no ≤ d.steps
  set : ∀ i k, d.set = some (i, k) → i < 9223372036854775808 ∧ k < 18446744073709551616
  off : d.off = true → d.set.isSome = true
end Go.Proofs.Ytladknjmoahdoaa
