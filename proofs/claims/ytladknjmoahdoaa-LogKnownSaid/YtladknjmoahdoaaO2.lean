/- The calls at a disk of one's own: what each answers and leaves. -/
import Derived.Test.YtladknjmoahdoaaO1
set_option linter.all false
namespace Go.Proofs.Ytladknjmoahdoaa
open Go.RowKit

/-- A disk in memory; F is where it lies. -/
structure DkO (w : World) (p : Nat) (F : List Nat) (d : DiskT) : Prop where
  at_ : ∃ m sb es, F = fpD p m sb es ∧ DiskAt w p m sb es d
  inv : Inv d
theorem DkO.lt {w : World} {p : Nat} {F : List Nat} {d : DiskT} (h : DkO w p F d) : ∀ i ∈ F, i < w.heap.size := by
  obtain ⟨⟨m, sb, es, rfl, h1⟩, -⟩ := h
  exact h1.lt
theorem DkO.fr {G : List Nat} {w w' : World} {p : Nat} {F : List Nat} {d : DiskT} (h : DkO w p F d) (hf : Fr G w w') (hF : ∀ i ∈ F, i ∉ G) : DkO w' p F d := by
  obtain ⟨⟨m, sb, es, rfl, h1⟩, hi⟩ := h
  exact ⟨⟨m, sb, es, rfl, h1.fr hf hF⟩, hi⟩
theorem DkO.below {w w' : World} {p : Nat} {F : List Nat} {d : DiskT} (h : DkO w p F d) (hb : Below w.heap.size w w') : DkO w' p F d := h.fr (Fr.below (F := []) hb) fun _ _ => by simp
/-- A disk that a call left. -/
structure LeftO (w : World) (p : Nat) (F : List Nat) (d' : DiskT) (F' : List Nat) (w' : World) : Prop where
  at_ : DkO w' p F' d'
  fr : Fr F w w'
  new : NewFp w.heap.size F F'
def OpO (w : World) (p : Nat) (F : List Nat) (r : Int × DiskT) (e : Ending) (w' : World) : Prop := e = .returned (.int .i64 r.1) ∧ ∃ F', LeftO w p F r.2 F' w'
def OpU (w : World) (p : Nat) (F : List Nat) (d' : DiskT) (e : Ending) (w' : World) : Prop := e = .returned (.tuple #[]) ∧ ∃ F', LeftO w p F d' F' w'
theorem OpL.left {w w' : World} {p m : Nat} {sb sb' : Option Nat} {es es' : List (ByteArray × FileM)} {d' : DiskT} (h : OpL w p m sb es d' sb' es' w') (hi : Inv d') : LeftO w p (fpD p m sb es) d' (fpD p m sb' es') w' :=
  ⟨⟨⟨m, sb', es', rfl, h.at_⟩, hi⟩, h.fr, h.new⟩
theorem LeftO.trans {w w1 w2 : World} {p : Nat} {F F1 F2 : List Nat} {d1 d2 : DiskT} (h : LeftO w p F d1 F1 w1) (h' : LeftO w1 p F1 d2 F2 w2) : LeftO w p F d2 F2 w2 :=
  ⟨h'.at_, h.fr.trans h'.fr fun i hi hl => by
    rcases h.new i hi with h1 | h1
    · exact h1
    · omega, h.new.trans h'.new h.fr.size⟩
theorem LeftO.below {w w1 w2 : World} {p : Nat} {F F1 : List Nat} {d1 : DiskT} (h : LeftO w p F d1 F1 w1) (hb : Below w1.heap.size w1 w2) : LeftO w p F d1 F1 w2 := ⟨h.at_.below hb, h.fr.and (Fr.below hb), h.new⟩
theorem LeftO.start {w w1 w2 : World} {p : Nat} {F F1 : List Nat} {d1 : DiskT} (hb : Below w.heap.size w w1) (h : LeftO w1 p F d1 F1 w2) : LeftO w p F d1 F1 w2 :=
  ⟨h.at_, (Fr.below hb).and h.fr, fun i hi => by
    rcases h.new i hi with h1 | h1
    · exact .inl h1
    · exact .inr (Nat.le_trans hb.size h1)⟩
theorem LeftO.here {w : World} {p : Nat} {F : List Nat} {d : DiskT} (h : DkO w p F d) : LeftO w p F d F w := ⟨h, Fr.refl _ _, NewFp.refl _ _⟩
section
variable {w : World} {p : Nat} {F : List Nat} {d : DiskT}
theorem OpP.o {m : Nat} {sb : Option Nat} {es : List (ByteArray × FileM)} {r : Int × DiskT} {e : Ending} {w' : World} (h : OpP w p m sb es r e w') (hi : Inv r.2) : OpO w p (fpD p m sb es) r e w' := by
  obtain ⟨rfl, es', hO⟩ := h
  exact ⟨rfl, _, hO.left hi⟩
theorem DkO.create (h : DkO w p F d) (hst : d.steps ≤ 3999999999) (name : ByteArray) : Calls Try.prog 12 #[.pointer (some ⟨p, 0, none⟩), .string name] w (OpO w p F (createD d name)) := by
  obtain ⟨⟨m, sb, es, rfl, h1⟩, hi⟩ := h
  exact (create_any p m sb es d name w h1 hi hst).mono fun e w' hP => OpP.o hP (hi.createD' name)
theorem DkO.write (h : DkO w p F d) (hst : d.steps ≤ 3999999999) (name : ByteArray) (at_ : Int) (b : List UInt8) (A : Option Addr) (nb c : Nat) (hA : Cells w A (bv b)) (hnb : b.length = nb) :
    Calls Try.prog 13 #[.pointer (some ⟨p, 0, none⟩), .string name, .int .i64 at_, .slice A nb c] w (OpO w p F (writeD d name at_ b)) := by
  obtain ⟨⟨m, sb, es, rfl, h1⟩, hi⟩ := h
  exact (write_any p m sb es d name at_ b A nb c w h1 hi hst hA hnb).mono fun e w' hP => OpP.o hP (hi.writeD' name at_ b)
theorem DkO.sync (h : DkO w p F d) (hst : d.steps ≤ 3999999999) (name : ByteArray) : Calls Try.prog 22 #[.pointer (some ⟨p, 0, none⟩), .string name] w (OpO w p F (syncD d name)) := by
  obtain ⟨⟨m, sb, es, rfl, h1⟩, hi⟩ := h
  exact (sync_any p m sb es d name w h1 hi hst).mono fun e w' hP => OpP.o hP (hi.syncD' name)
theorem DkO.fail (h : DkO w p F d) {n : Int} {k : Nat} (hn : n < 9223372036854775808) (hk : k < 18446744073709551616) : Calls Try.prog 9 #[.pointer (some ⟨p, 0, none⟩), .int .i64 n, .int .u64 k] w (OpU w p F (failD d n k)) := by
  obtain ⟨⟨m, sb, es, rfl, h1⟩, hi⟩ := h
  refine (fail_any p m sb es d n k w h1).mono ?_
  rintro e w' ⟨rfl, sb', hO⟩
  exact ⟨rfl, _, hO.left (hi.failD' hn hk)⟩
theorem DkO.on (h : DkO w p F d) (hst : d.steps ≤ 4000000000) : Calls Try.prog 10 #[.pointer (some ⟨p, 0, none⟩)] w (OpU w p F (onD d)) := by
  obtain ⟨⟨m, sb, es, rfl, h1⟩, hi⟩ := h
  refine (on_any p m sb es d w h1 hi hst).mono ?_
  rintro e w' ⟨rfl, sb', es', hO⟩
  exact ⟨rfl, _, hO.left hi.onD'.1⟩
theorem DkO.len (h : DkO w p F d) (name : ByteArray) : Calls Try.prog 18 #[.pointer (some ⟨p, 0, none⟩), .string name] w fun e w' => e = .returned (.tuple #[.int .i64 (lenD d name).2, .int .i64 (lenD d name).1]) ∧ w = w' := by
  obtain ⟨⟨m, sb, es, rfl, h1⟩, -⟩ := h
  exact len_any h1 name
theorem DkO.read (h : DkO w p F d) (name : ByteArray) (at_ : Int) : Calls Try.prog 42 #[.pointer (some ⟨p, 0, none⟩), .string name, .int .i64 at_] w fun e w' => ∃ v, e = .returned (.tuple #[v, .int .i64 (readD d name at_).1]) ∧ ReadV w (readD d name at_).2 v w' := by
  obtain ⟨⟨m, sb, es, rfl, h1⟩, hi⟩ := h
  exact read_any p m sb es d name at_ w h1 hi
theorem DkO.off (h : DkO w p F d) : Calls Try.prog 16 #[.pointer (some ⟨p, 0, none⟩)] w fun e w' => e = .returned (.bool d.off) ∧ w = w' := by
  obtain ⟨⟨m, sb, es, rfl, h1⟩, -⟩ := h
  exact off_any h1
end
/-- A new disk. -/
def NewO (w : World) (d : DiskT) (e : Ending) (w' : World) : Prop := ∃ p F, e = .returned (.pointer (some ⟨p, 0, none⟩)) ∧ DkO w' p F d ∧ Below w.heap.size w w' ∧ ∀ i ∈ F, w.heap.size ≤ i
theorem new_o (quota : Int) (w : World) : Calls Try.prog 6 #[.int .i64 quota] w (NewO w (newD quota)) := by
  refine (new_any quota w).mono ?_
  rintro e w' ⟨p, m, rfl, h, hp, hm, hb⟩
  refine ⟨p, _, rfl, ⟨⟨m, none, [], rfl, h⟩, newD_inv quota⟩, hb, fun i hi => ?_⟩
  simp [fpD, fpF] at hi
  rcases hi with e | e <;> omega
def CopyO (w : World) (d : DiskT) (e : Ending) (w' : World) : Prop := ∃ p F d2, e = .returned (.pointer (some ⟨p, 0, none⟩)) ∧ DkO w' p F d2 ∧ EqvD d d2 ∧ Below w.heap.size w w' ∧ ∀ i ∈ F, w.heap.size ≤ i
end Go.Proofs.Ytladknjmoahdoaa
