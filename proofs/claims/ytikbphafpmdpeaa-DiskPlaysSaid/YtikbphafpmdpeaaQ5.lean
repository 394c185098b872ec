/- The two disks together; plays of the statements: the calls that both answer with one number. · plays of the statements: Write, Read; any call. · Calls that came in as arguments: what their cells hold. · The two disks behind any calls; what a file apart is. -/
import Derived.Test.YtikbphafpmdpeaaQ4
import Derived.Test.YtikbphafpmdpeaaO6
import Derived.Deep.Slices
import Derived.Deep.Fields
import Derived.ChangeSame
import Derived.ChangeArms
import Derived.OpenShut
import Derived.Test.YtikbphafpmdpeaaO3
set_option linter.all false
namespace Go.Proofs.Ytikbphafpmdpeaa
open Go.RowKit

/-- The document's disk in memory; F is where it lies. -/
structure RfO (w : World) (q : Nat) (F : List Nat) (m : RefT) : Prop where
  at_ : ∃ vf vo vs, F = fpR q vf vo ∧ RfAt w q vf vo vs m
  inv : RInv m
theorem RfO.lt {w : World} {q : Nat} {F : List Nat} {m : RefT} (h : RfO w q F m) : ∀ i ∈ F, i < w.heap.size := by
  obtain ⟨⟨vf, vo, vs, rfl, h1⟩, -⟩ := h
  exact h1.lt
theorem RfO.not_str {w : World} {q : Nat} {F : List Nat} {m : RefT} (h : RfO w q F m) : ∀ i ∈ F, ∀ cur fr, w.heap[i]? ≠ some (.cells cur 9 fr) := by
  obtain ⟨⟨vf, vo, vs, rfl, h1⟩, -⟩ := h
  exact h1.not_str
theorem RfO.fr {G : List Nat} {w w' : World} {q : Nat} {F : List Nat} {m : RefT} (h : RfO w q F m) (hf : Fr G w w') (hF : ∀ i ∈ F, i ∉ G) (hs : ∀ i ∈ G, ∀ cur fr, w.heap[i]? ≠ some (.cells cur 9 fr)) : RfO w' q F m := by
  obtain ⟨⟨vf, vo, vs, rfl, h1⟩, hi⟩ := h
  exact ⟨⟨vf, vo, vs, rfl, h1.fr hf hF hs⟩, hi⟩
theorem RfO.below {w w' : World} {q : Nat} {F : List Nat} {m : RefT} (h : RfO w q F m) (hb : Below w.heap.size w w') : RfO w' q F m := h.fr (Fr.below (F := []) hb) (fun _ _ => by simp) fun _ hi => by simp at hi
theorem FileAt.not_str {w : World} {x : FileM} (h : FileAt w x) : ∀ i ∈ x.fp, ∀ cur fr, w.heap[i]? ≠ some (.cells cur 9 fr) := by
  intro i hi cur fr he
  rcases FileM.mem_fp.1 hi with rfl | hi | hi | hi
  · rw [h.blk] at he; cases he
  · obtain ⟨c, hc⟩ := row_kind h.now hi; rw [hc] at he; cases he
  · obtain ⟨c, hc⟩ := row_kind h.settled hi; rw [hc] at he; cases he
  · obtain ⟨c, hc⟩ := row_kind h.opens hi; rw [hc] at he; cases he
theorem DkO.not_str {w : World} {p : Nat} {F : List Nat} {d : DiskT} (h : DkO w p F d) : ∀ i ∈ F, ∀ cur fr, w.heap[i]? ≠ some (.cells cur 9 fr) := by
  obtain ⟨⟨m, sb, es, rfl, h1⟩, -⟩ := h
  intro i hi cur fr he
  simp only [fpD, List.cons_append, List.mem_cons, List.mem_append, Option.mem_toList] at hi
  rcases hi with rfl | rfl | hi | hi
  · rw [h1.blk] at he; cases he
  · obtain ⟨a, b, h2, -⟩ := h1.map
    rw [h2] at he; cases he
  · have h2 := h1.set
    rw [hi] at h2
    cases hs : d.set with
    | none => rw [hs] at h2; exact h2
    | some ik =>
      obtain ⟨a, b⟩ := ik
      rw [hs] at h2
      have h3 : w.heap[i]? = some (.cells #[.int .i64 a, .int .u64 b] 80) := h2
      rw [h3] at he; cases he
  · obtain ⟨e, hem, hx⟩ := List.mem_flatMap.1 hi
    exact (h1.files e hem).not_str i hx cur fr he
/-- What a call of the document's disk leaves. -/
structure LeftR (w : World) (q : Nat) (F : List Nat) (m' : RefT) (F' : List Nat) (w' : World) : Prop where
  at_ : RfO w' q F' m'
  fr : Fr F w w'
  new : NewFp w.heap.size F F'
theorem RfP.left {w w' : World} {q : Nat} {vf vo : Value} {m' : RefT} (h : RfP w q vf vo m' w') (hi : RInv m') : ∃ F', LeftR w q (fpR q vf vo) m' F' w' := by
  obtain ⟨vf', vo', vs', h1, h2, h3⟩ := h
  exact ⟨_, ⟨⟨vf', vo', vs', rfl, h1⟩, hi⟩, h2, h3⟩
def OpRO (w : World) (q : Nat) (F : List Nat) (r : Int × RefT) (e : Ending) (w' : World) : Prop := e = .returned (.int .i64 r.1) ∧ ∃ F', LeftR w q F r.2 F' w'
section
variable {w : World} {q : Nat} {F : List Nat} {m : RefT}
theorem RfO.create (h : RfO w q F m) (hc : m.count ≤ 3999999999) (name : ByteArray) : Calls Try.prog 30 #[.pointer (some ⟨q, 0, none⟩), .string name] w (OpRO w q F (createR m name)) := by
  obtain ⟨⟨vf, vo, vs, rfl, h1⟩, hi⟩ := h
  exact (rcreate_any h1 hi hc name).mono fun e w' hP => ⟨hP.1, hP.2.left (hi.create name)⟩
theorem RfO.remove (h : RfO w q F m) (hc : m.count ≤ 3999999999) (name : ByteArray) : Calls Try.prog 34 #[.pointer (some ⟨q, 0, none⟩), .string name] w (OpRO w q F (removeR m name)) := by
  obtain ⟨⟨vf, vo, vs, rfl, h1⟩, hi⟩ := h
  exact (rremove_any h1 hi hc name).mono fun e w' hP => ⟨hP.1, hP.2.left (hi.remove name)⟩
theorem RfO.rename (h : RfO w q F m) (hc : m.count ≤ 3999999999) (src dst : ByteArray) : Calls Try.prog 33 #[.pointer (some ⟨q, 0, none⟩), .string src, .string dst] w (OpRO w q F (renameR m src dst)) := by
  obtain ⟨⟨vf, vo, vs, rfl, h1⟩, hi⟩ := h
  exact (rrename_any h1 hi hc src dst).mono fun e w' hP => ⟨hP.1, hP.2.left (hi.rename src dst)⟩
theorem RfO.sync (h : RfO w q F m) (hc : m.count ≤ 3999999999) (name : ByteArray) : Calls Try.prog 32 #[.pointer (some ⟨q, 0, none⟩), .string name] w (OpRO w q F (syncR m name)) := by
  obtain ⟨⟨vf, vo, vs, rfl, h1⟩, hi⟩ := h
  exact (rsync_any h1 hi hc name).mono fun e w' hP => ⟨hP.1, hP.2.left (hi.sync name)⟩
theorem RfO.write (h : RfO w q F m) (hc : m.count ≤ 3999999999) (name : ByteArray) (pg : Int) (b : List UInt8) (A : Option Addr) (nb c : Nat) (hA : Cells w A (bv b)) (hnb : b.length = nb) (hAF : ∀ ad, A = some ad → ad.block ∉ F) :
    Calls Try.prog 31 #[.pointer (some ⟨q, 0, none⟩), .string name, .int .i64 pg, .slice A nb c] w (OpRO w q F (writeR m name pg b)) := by
  obtain ⟨⟨vf, vo, vs, rfl, h1⟩, hi⟩ := h
  exact (rwrite_any h1 hi hc name pg b A nb c hA hnb hAF).mono fun e w' hP => ⟨hP.1, hP.2.left (hi.write name pg b)⟩
theorem RfO.fail (h : RfO w q F m) {n : Int} {k : Nat} (hn : n < 9223372036854775808) (hk : k < 18446744073709551616) : Calls Try.prog 37 #[.pointer (some ⟨q, 0, none⟩), .int .i64 n, .int .u64 k] w fun e w' => e = .returned (.tuple #[]) ∧ ∃ F', LeftR w q F (failR m n k) F' w' := by
  obtain ⟨⟨vf, vo, vs, rfl, h1⟩, hi⟩ := h
  exact (rfail_any h1 n k).mono fun e w' hP => ⟨hP.1, hP.2.left (hi.fail hn hk)⟩
theorem RfO.on (h : RfO w q F m) (hc : m.count ≤ 4000000000) : Calls Try.prog 38 #[.pointer (some ⟨q, 0, none⟩)] w fun e w' => e = .returned (.tuple #[]) ∧ ∃ F', LeftR w q F (onR m) F' w' := by
  obtain ⟨⟨vf, vo, vs, rfl, h1⟩, hi⟩ := h
  exact (ron_any h1 hi hc).mono fun e w' hP => ⟨hP.1, hP.2.left hi.on⟩
theorem RfO.len (h : RfO w q F m) (hc : m.count ≤ 4000000000) (name : ByteArray) : Calls Try.prog 36 #[.pointer (some ⟨q, 0, none⟩), .string name] w fun e w' => e = .returned (.tuple #[.int .i64 (lenR m name).2, .int .i64 (lenR m name).1]) ∧ Below w.heap.size w w' := by
  obtain ⟨⟨vf, vo, vs, rfl, h1⟩, hi⟩ := h
  exact rlen_any h1 hi hc name
theorem RfO.read (h : RfO w q F m) (hc : m.count ≤ 4000000000) (name : ByteArray) (pg : Int) : Calls Try.prog 35 #[.pointer (some ⟨q, 0, none⟩), .string name, .int .i64 pg] w fun e w' => ∃ v, e = .returned (.tuple #[v, .int .i64 (readR m name pg).1]) ∧ RReadV w (readR m name pg).2 v w' := by
  obtain ⟨⟨vf, vo, vs, rfl, h1⟩, hi⟩ := h
  exact rread_any h1 hi hc name pg
end
/-- Both disks, apart from each other. -/
structure Duo (w : World) (p q : Nat) (Fd Fm : List Nat) (d : DiskT) (m : RefT) : Prop where
  dk : DkO w p Fd d
  rf : RfO w q Fm m
  apart : ∀ i ∈ Fd, i ∉ Fm
/-- Both disks behind calls. -/
structure Went (w : World) (p q : Nat) (Fd Fm : List Nat) (d' : DiskT) (m' : RefT) (Fd' Fm' : List Nat) (w' : World) : Prop where
  duo : Duo w' p q Fd' Fm' d' m'
  fr : Fr (Fd ++ Fm) w w'
  nd : NewFp w.heap.size Fd Fd'
  nm : NewFp w.heap.size Fm Fm'
section
variable {w w1 w2 : World} {p q : Nat} {Fd Fm Fd1 Fm1 Fd2 Fm2 : List Nat} {d d1 d2 : DiskT} {m m1 m2 : RefT}
theorem Duo.below (h : Duo w p q Fd Fm d m) (hb : Below w.heap.size w w1) : Duo w1 p q Fd Fm d m := ⟨h.dk.below hb, h.rf.below hb, h.apart⟩
theorem Duo.lt (h : Duo w p q Fd Fm d m) : ∀ i ∈ Fd ++ Fm, i < w.heap.size := fun i hi => by
  rcases List.mem_append.1 hi with hi | hi
  · exact h.dk.lt i hi
  · exact h.rf.lt i hi
theorem Went.refl (h : Duo w p q Fd Fm d m) : Went w p q Fd Fm d m Fd Fm w := ⟨h, Fr.refl _ _, NewFp.refl _ _, NewFp.refl _ _⟩
theorem Went.below (h : Went w p q Fd Fm d1 m1 Fd1 Fm1 w1) (hb : Below w1.heap.size w1 w2) : Went w p q Fd Fm d1 m1 Fd1 Fm1 w2 := ⟨h.duo.below hb, h.fr.and (Fr.below hb), h.nd, h.nm⟩
theorem Went.start (hb : Below w.heap.size w w1) (h : Went w1 p q Fd Fm d1 m1 Fd1 Fm1 w2) : Went w p q Fd Fm d1 m1 Fd1 Fm1 w2 :=
  ⟨h.duo, (Fr.below hb).and h.fr, fun i hi => (h.nd i hi).imp id fun h => Nat.le_trans hb.size h, fun i hi => (h.nm i hi).imp id fun h => Nat.le_trans hb.size h⟩
theorem Went.trans (h : Went w p q Fd Fm d1 m1 Fd1 Fm1 w1) (h' : Went w1 p q Fd1 Fm1 d2 m2 Fd2 Fm2 w2) : Went w p q Fd Fm d2 m2 Fd2 Fm2 w2 :=
  ⟨h'.duo, h.fr.trans h'.fr fun i hi hl => by
    rcases List.mem_append.1 hi with h1 | h1
    · rcases h.nd i h1 with h2 | h2
      · exact List.mem_append_left _ h2
      · omega
    · rcases h.nm i h1 with h2 | h2
      · exact List.mem_append_right _ h2
      · omega, h.nd.trans h'.nd h.fr.size, h.nm.trans h'.nm h.fr.size⟩
theorem Went.disk (h : Duo w p q Fd Fm d m) (hl : LeftO w p Fd d1 Fd1 w1) : Went w p q Fd Fm d1 m Fd1 Fm w1 :=
  ⟨⟨hl.at_, h.rf.fr hl.fr (fun i hi hi2 => h.apart i hi2 hi) h.dk.not_str, fun i hi hi2 => by
    rcases hl.new i hi with h1 | h1
    · exact h.apart i h1 hi2
    · exact absurd (h.rf.lt i hi2) (by omega)⟩, hl.fr.mono fun i hi _ => List.mem_append_left _ hi, hl.new, NewFp.refl _ _⟩
theorem Went.ref (h : Duo w p q Fd Fm d m) (hl : LeftR w q Fm m1 Fm1 w1) : Went w p q Fd Fm d m1 Fd Fm1 w1 :=
  ⟨⟨h.dk.fr hl.fr fun i hi => h.apart i hi, hl.at_, fun i hi hi2 => by
    rcases hl.new i hi2 with h1 | h1
    · exact h.apart i hi h1
    · exact absurd (h.dk.lt i hi) (by omega)⟩, hl.fr.mono fun i hi _ => List.mem_append_right _ hi, NewFp.refl _ _, hl.new⟩
end
/-- A call. -/
structure OpT where
  kind : Nat
  name : ByteArray
  dst : ByteArray
  page : Int
  long : Nat
  fill : UInt8
  keep : Nat
def opCs (x : OpT) : Array Value := #[.int .u8 (x.kind : Int), .string x.name, .string x.dst, .int .i64 x.page, .int .u16 (x.long : Int), .int .u8 (x.fill.toNat : Int), .int .u64 (x.keep : Int)]
def opV (x : OpT) : Value := .agg (opCs x)
structure OpT.Ok (x : OpT) : Prop where
  kind : x.kind < 256
  page : -9223372036854775808 ≤ x.page ∧ x.page < 9223372036854775808
  long : x.long < 65536
  keep : x.keep < 18446744073709551616
def bytesO (x : OpT) : List UInt8 := List.replicate (x.long % 300) x.fill
def playD (d : DiskT) (x : OpT) : DiskT :=
  match x.kind % 11 with
  | 0 => (createD d x.name).2
  | 1 => (writeD d x.name x.page (bytesO x)).2
  | 2 => (syncD d x.name).2
  | 3 => (renameD d x.name x.dst).2
  | 4 => (removeD d x.name).2
  | 7 => failD d x.page x.keep
  | 8 => onD d
  | _ => d
def playR (m : RefT) (x : OpT) : RefT :=
  match x.kind % 11 with
  | 0 => (createR m x.name).2
  | 1 => (writeR m x.name x.page (bytesO x)).2
  | 2 => (syncR m x.name).2
  | 3 => (renameR m x.name x.dst).2
  | 4 => (removeR m x.name).2
  | 7 => failR m x.page x.keep
  | 8 => onR m
  | _ => m
def pgO : Option PageT → List UInt8
  | none => []
  | some q => q.b
def playB (d : DiskT) (m : RefT) (x : OpT) : Bool :=
  match x.kind % 11 with
  | 0 => (createD d x.name).1 == (createR m x.name).1
  | 1 => (writeD d x.name x.page (bytesO x)).1 == (writeR m x.name x.page (bytesO x)).1
  | 2 => (syncD d x.name).1 == (syncR m x.name).1
  | 3 => (renameD d x.name x.dst).1 == (renameR m x.name x.dst).1
  | 4 => (removeD d x.name).1 == (removeR m x.name).1
  | 5 => decide (pgO (readD d x.name x.page).2 = pgO (readR m x.name x.page).2) && ((readD d x.name x.page).1 == (readR m x.name x.page).1)
  | 6 => ((lenD d x.name).2 == (lenR m x.name).2) && ((lenD d x.name).1 == (lenR m x.name).1)
  | _ => true
theorem natbeq (a b : Nat) : ((a : Int) == (b : Int)) = (a == b) := by rw [Bool.eq_iff_iff]; simp; omega
/-- What a call of both answers and leaves. -/
def PlayP (w : World) (p q : Nat) (Fd Fm : List Nat) (d : DiskT) (m : RefT) (x : OpT) (e : Ending) (w' : World) : Prop :=
  e = .returned (.bool (playB d m x)) ∧ ∃ Fd' Fm', Went w p q Fd Fm (playD d x) (playR m x) Fd' Fm' w'
set_option maxRecDepth 100000 in
set_option maxHeartbeats 8000000 in
theorem plays0 {w : World} {p q : Nat} {Fd Fm : List Nat} {d : DiskT} {m : RefT} {x : OpT} (h : Duo w p q Fd Fm d m) (hd : d.steps ≤ 3999999999) (hm : m.count ≤ 3999999999) (hx : x.Ok) (hk : x.kind % 11 = 0) :
    Calls Try.prog 10 #[.pointer (some ⟨p, 0, none⟩), .pointer (some ⟨q, 0, none⟩), opV x] w (PlayP w p q Fd Fm d m x) := by
  have hb1 : Below w.heap.size w (w.alloc (.cells #[.int .u8 (x.kind : Int), .string x.name, .string x.dst, .int .i64 x.page, .int .u16 (x.long : Int), .int .u8 (x.fill.toNat : Int), .int .u64 (x.keep : Int)] 28)) := (Below.refl _ _).alloc (Nat.le_refl _) _
  have HB1 := Lib.hid hb1
  have HDU := Lib.hid (h.below hb1)
  have hbox := Go.heap_alloc_new w (.cells #[.int .u8 (x.kind : Int), .string x.name, .string x.dst, .int .i64 x.page, .int .u16 (x.long : Int), .int .u8 (x.fill.toNat : Int), .int .u64 (x.keep : Int)] 28)
  have HNB := Lib.hid (show w.heap.size ∉ Fd ++ Fm from fun hi => absurd (h.lt _ hi) (Nat.lt_irrefl _))
  have q0 : (w.alloc (.cells #[.int .u8 (x.kind : Int), .string x.name, .string x.dst, .int .i64 x.page, .int .u16 (x.long : Int), .int .u8 (x.fill.toNat : Int), .int .u64 (x.keep : Int)] 28)).cell? ⟨w.heap.size, 0, none⟩ = some (.int .u8 (x.kind : Int)) := cell_of (j := 0) hbox rfl
  have HBOX := Lib.hid hbox
  have HX := Lib.hid hx
  have HPB := Lib.hid (show playB d m x = ((createD d x.name).1 == (createR m x.name).1) from by unfold playB; rw [hk] <;> rfl)
  have HPD := Lib.hid (show playD d x = (createD d x.name).2 from by unfold playD; rw [hk] <;> rfl)
  have HPR := Lib.hid (show playR m x = (createR m x.name).2 from by unfold playR; rw [hk] <;> rfl)
  have hsc : ∀ V : World, Fr (Fd ++ Fm) (w.alloc (.cells #[.int .u8 (x.kind : Int), .string x.name, .string x.dst, .int .i64 x.page, .int .u16 (x.long : Int), .int .u8 (x.fill.toNat : Int), .int .u64 (x.keep : Int)] 28)) V → V.cell? ⟨w.heap.size, 1, none⟩ = some (.string x.name) ∧ V.cell? ⟨w.heap.size, 2, none⟩ = some (.string x.dst) := fun V hV =>
    ⟨hV.cellKept HNB.out (cell_of (j := 1) hbox rfl), hV.cellKept HNB.out (cell_of (j := 2) hbox rfl)⟩
  have SC := Lib.hid hsc
  have HCD := Lib.hid (fun W (hW : DkO W p Fd d) => hW.create hd x.name)
  have HCM := Lib.hid (fun W (hW : RfO W q Fm m) => hW.create hm x.name)
  obtain ⟨r1, hr1⟩ : ∃ r, createD d x.name = r := ⟨_, rfl⟩
  obtain ⟨r2, hr2⟩ : ∃ r, createR m x.name = r := ⟨_, rfl⟩
  rw [hr1] at HCD HPB HPD
  rw [hr2] at HCM HPB HPR
  clear hsc hr1 hr2
  have hmm : Int.tmod (x.kind : Int) 11 = 0 := by rw [Int.tmod_eq_emod_of_nonneg (by omega)]; omega
  clear h hb1 hbox hk hx
  unfold opV opCs
  go_enter Try.func10, Try.ntmps10
  go_wp2_with fail
  generalize w.alloc (.cells #[.int .u8 (x.kind : Int), .string x.name, .string x.dst, .int .i64 x.page, .int .u16 (x.long : Int), .int .u8 (x.fill.toNat : Int), .int .u64 (x.keep : Int)] 28) = w1 at *
  refine wp_region_noPanic ?_
  refine wp_region_any (by kernel_rfl) (anyG_any (S := fun V : World => Fr (Fd ++ Fm) w1 V) (n := 9) _ _ _ _ ?_)
  have hS : Fr (Fd ++ Fm) w1 w1.drew := (Fr.refl _ _).drew
  change AnyG _ _ _ _ _ _ 10 (Array.replicate 10 false) _ w1.drew
  refine anyG_take (i := 0) (oi := ⟨_, _, _, _, _, _⟩) (v := ?_) rfl rfl (by kernel_rfl) (by kernel_rfl) (by kernel_rfl) (by kernel_rfl) (by kernel_rfl) (fun _ _ _ h => h) (Or.inl ⟨by rfl, ?_⟩) hS ?_
  rotate_left
  · (intro w' hSw; skip; go_simp; (try with_reducible rfl))
  try simp only [Act.put, List.setIfInBounds_toArray, List.set_cons_zero, List.set_cons_succ]
  refine anyG_take (i := 1) (oi := ⟨_, _, _, _, _, _⟩) (v := ?_) rfl rfl (by kernel_rfl) (by kernel_rfl) (by kernel_rfl) (by kernel_rfl) (by kernel_rfl) (fun _ _ _ h => h) (Or.inl ⟨by rfl, ?_⟩) hS ?_
  rotate_left
  · (intro w' hSw; skip; go_simp; (try with_reducible rfl))
  try simp only [Act.put, List.setIfInBounds_toArray, List.set_cons_zero, List.set_cons_succ]
  refine anyG_take (i := 2) (oi := ⟨_, _, _, _, _, _⟩) (v := ?_) rfl rfl (by kernel_rfl) (by kernel_rfl) (by kernel_rfl) (by kernel_rfl) (by kernel_rfl) (fun _ _ _ h => h) (Or.inl ⟨by rfl, ?_⟩) hS ?_
  rotate_left
  · (intro w' hSw; obtain ⟨s1, s2⟩ := SC.out _ hSw; go_simp; (try with_reducible rfl))
  try simp only [Act.put, List.setIfInBounds_toArray, List.set_cons_zero, List.set_cons_succ]
  refine anyG_take (i := 4) (oi := ⟨_, _, _, _, _, _⟩) (v := ?_) rfl rfl (by kernel_rfl) (by kernel_rfl) (by kernel_rfl) (by kernel_rfl) (by kernel_rfl) (fun _ _ _ h => h) (Or.inl ⟨by rfl, ?_⟩) hS ?_
  rotate_left
  · (intro w' hSw; skip; go_simp; (try with_reducible rfl))
  try simp only [Act.put, List.setIfInBounds_toArray, List.set_cons_zero, List.set_cons_succ]
  refine anyG_take (i := 5) (oi := ⟨_, _, _, _, _, _⟩) (v := ?_) rfl rfl (by kernel_rfl) (by kernel_rfl) (by kernel_rfl) (by kernel_rfl) (by kernel_rfl) (fun _ _ _ h => h) (Or.inl ⟨by rfl, ?_⟩) hS ?_
  rotate_left
  · (intro w' hSw; skip; go_simp; (try with_reducible rfl))
  try simp only [Act.put, List.setIfInBounds_toArray, List.set_cons_zero, List.set_cons_succ]
  refine anyG_take (i := 6) (oi := ⟨_, _, _, _, _, _⟩) (v := ?_) rfl rfl (by kernel_rfl) (by kernel_rfl) (by kernel_rfl) (by kernel_rfl) (by kernel_rfl) (fun _ _ _ h => h) (Or.inl ⟨by rfl, ?_⟩) hS ?_
  rotate_left
  · (intro w' hSw; obtain ⟨s1, s2⟩ := SC.out _ hSw; go_simp; (try with_reducible rfl))
  try simp only [Act.put, List.setIfInBounds_toArray, List.set_cons_zero, List.set_cons_succ]
  refine anyG_all (rs := [3]) (by kernel_rfl) (by simp) (List.forall_mem_singleton.2 ?_)
  refine wpOp_step (o := ⟨_, _, _, _, _, _⟩) rfl (fun K' hK => ?_)
  have HK := Lib.hid hK
  clear hK
  rw [if_pos (by rfl)]
  go_simp
  refine (HCD.out w1.drew (HDU.out.dk.below (Below.refl _ _).drew)).mono ?_
  rintro e w2 ⟨rfl, Fd', hL⟩
  have hW := Went.disk (HDU.out.below (w1 := w1.drew) (Below.refl _ _).drew) hL
  have hS2 : Fr (Fd ++ Fm) w1 w2 := hS.and ⟨hW.fr.os, hW.fr.tape, hW.fr.output, hW.fr.size, hW.fr.block⟩
  have HW := Lib.hid hW
  clear hL hW hS
  have hS := hS2
  go_wp2_with fail
  refine HK.out _ _ ⟨fun _ => hS, ?_⟩
  clear HK
  try simp only [Act.put, List.setIfInBounds_toArray, List.set_cons_zero, List.set_cons_succ]
  refine anyG_all (rs := [7]) (by kernel_rfl) (by simp) (List.forall_mem_singleton.2 ?_)
  refine wpOp_step (o := ⟨_, _, _, _, _, _⟩) rfl (fun K' hK => ?_)
  have HK := Lib.hid hK
  clear hK
  rw [if_pos (by rfl)]
  go_simp
  refine (HCM.out w2 HW.out.duo.rf).mono ?_
  rintro e w3 ⟨rfl, Fm', hL⟩
  have hW3 := HW.out.trans (Went.ref HW.out.duo hL)
  have hS3 : Fr (Fd ++ Fm) w1 w3 := (show Fr (Fd ++ Fm) w1 w1.drew from (Fr.refl _ _).drew).and hW3.fr
  have HW3 := Lib.hid hW3
  clear hL hW3 hS
  have hS := hS3
  go_wp2_with fail
  refine HK.out _ _ ⟨fun _ => hS, ?_⟩
  clear HK
  try simp only [Act.put, List.setIfInBounds_toArray, List.set_cons_zero, List.set_cons_succ]
  refine anyG_all (rs := [8]) (by kernel_rfl) (by simp) (List.forall_mem_singleton.2 ?_)
  refine wpOp_step (o := ⟨_, _, _, _, _, _⟩) rfl (fun K' hK => ?_)
  have HK := Lib.hid hK
  clear hK
  rw [if_pos (by rfl)]
  go_simp
  refine HK.out _ _ ⟨fun _ => hS, ?_⟩
  clear HK
  try simp only [Act.put, List.setIfInBounds_toArray, List.set_cons_zero, List.set_cons_succ]
  refine anyG_all (rs := [9]) (by kernel_rfl) (by simp) (List.forall_mem_singleton.2 ?_)
  refine wpOp_step (o := ⟨_, _, _, _, _, _⟩) rfl (fun K' hK => ?_)
  have HK := Lib.hid hK
  clear hK
  rw [if_pos (by rfl)]
  go_simp
  refine HK.out _ _ ⟨fun h => absurd rfl h, anyG_done (by kernel_rfl) ?_⟩
  clear HK
  refine NoPanic.normal ?_
  clear hS hS2 hS3 SC q0
  go_wp2_with fail
  go_ret
  rw [PlayP, HPB.out, HPD.out, HPR.out]
  exact ⟨rfl, _, _, Went.start (HB1.out.trans (show Below w.heap.size w1 w1.drew from ((Below.refl _ _).drew).mono HB1.out.size)) HW3.out⟩
set_option maxRecDepth 100000 in
set_option maxHeartbeats 8000000 in
theorem plays2 {w : World} {p q : Nat} {Fd Fm : List Nat} {d : DiskT} {m : RefT} {x : OpT} (h : Duo w p q Fd Fm d m) (hd : d.steps ≤ 3999999999) (hm : m.count ≤ 3999999999) (hx : x.Ok) (hk : x.kind % 11 = 2) :
    Calls Try.prog 10 #[.pointer (some ⟨p, 0, none⟩), .pointer (some ⟨q, 0, none⟩), opV x] w (PlayP w p q Fd Fm d m x) := by
  have hb1 : Below w.heap.size w (w.alloc (.cells #[.int .u8 (x.kind : Int), .string x.name, .string x.dst, .int .i64 x.page, .int .u16 (x.long : Int), .int .u8 (x.fill.toNat : Int), .int .u64 (x.keep : Int)] 28)) := (Below.refl _ _).alloc (Nat.le_refl _) _
  have HB1 := Lib.hid hb1
  have HDU := Lib.hid (h.below hb1)
  have hbox := Go.heap_alloc_new w (.cells #[.int .u8 (x.kind : Int), .string x.name, .string x.dst, .int .i64 x.page, .int .u16 (x.long : Int), .int .u8 (x.fill.toNat : Int), .int .u64 (x.keep : Int)] 28)
  have HNB := Lib.hid (show w.heap.size ∉ Fd ++ Fm from fun hi => absurd (h.lt _ hi) (Nat.lt_irrefl _))
  have q0 : (w.alloc (.cells #[.int .u8 (x.kind : Int), .string x.name, .string x.dst, .int .i64 x.page, .int .u16 (x.long : Int), .int .u8 (x.fill.toNat : Int), .int .u64 (x.keep : Int)] 28)).cell? ⟨w.heap.size, 0, none⟩ = some (.int .u8 (x.kind : Int)) := cell_of (j := 0) hbox rfl
  have HBOX := Lib.hid hbox
  have HX := Lib.hid hx
  have HPB := Lib.hid (show playB d m x = ((syncD d x.name).1 == (syncR m x.name).1) from by unfold playB; rw [hk] <;> rfl)
  have HPD := Lib.hid (show playD d x = (syncD d x.name).2 from by unfold playD; rw [hk] <;> rfl)
  have HPR := Lib.hid (show playR m x = (syncR m x.name).2 from by unfold playR; rw [hk] <;> rfl)
  have hsc : ∀ V : World, Fr (Fd ++ Fm) (w.alloc (.cells #[.int .u8 (x.kind : Int), .string x.name, .string x.dst, .int .i64 x.page, .int .u16 (x.long : Int), .int .u8 (x.fill.toNat : Int), .int .u64 (x.keep : Int)] 28)) V → V.cell? ⟨w.heap.size, 1, none⟩ = some (.string x.name) ∧ V.cell? ⟨w.heap.size, 2, none⟩ = some (.string x.dst) := fun V hV =>
    ⟨hV.cellKept HNB.out (cell_of (j := 1) hbox rfl), hV.cellKept HNB.out (cell_of (j := 2) hbox rfl)⟩
  have SC := Lib.hid hsc
  have HCD := Lib.hid (fun W (hW : DkO W p Fd d) => hW.sync hd x.name)
  have HCM := Lib.hid (fun W (hW : RfO W q Fm m) => hW.sync hm x.name)
  obtain ⟨r1, hr1⟩ : ∃ r, syncD d x.name = r := ⟨_, rfl⟩
  obtain ⟨r2, hr2⟩ : ∃ r, syncR m x.name = r := ⟨_, rfl⟩
  rw [hr1] at HCD HPB HPD
  rw [hr2] at HCM HPB HPR
  clear hsc hr1 hr2
  have hmm : Int.tmod (x.kind : Int) 11 = 2 := by rw [Int.tmod_eq_emod_of_nonneg (by omega)]; omega
  clear h hb1 hbox hk hx
  unfold opV opCs
  go_enter Try.func10, Try.ntmps10
  go_wp2_with fail
  generalize w.alloc (.cells #[.int .u8 (x.kind : Int), .string x.name, .string x.dst, .int .i64 x.page, .int .u16 (x.long : Int), .int .u8 (x.fill.toNat : Int), .int .u64 (x.keep : Int)] 28) = w1 at *
  refine wp_region_noPanic ?_
  refine wp_region_any (by kernel_rfl) (anyG_any (S := fun V : World => Fr (Fd ++ Fm) w1 V) (n := 9) _ _ _ _ ?_)
  have hS : Fr (Fd ++ Fm) w1 w1.drew := (Fr.refl _ _).drew
  change AnyG _ _ _ _ _ _ 10 (Array.replicate 10 false) _ w1.drew
  refine anyG_take (i := 0) (oi := ⟨_, _, _, _, _, _⟩) (v := ?_) rfl rfl (by kernel_rfl) (by kernel_rfl) (by kernel_rfl) (by kernel_rfl) (by kernel_rfl) (fun _ _ _ h => h) (Or.inl ⟨by rfl, ?_⟩) hS ?_
  rotate_left
  · (intro w' hSw; skip; go_simp; (try with_reducible rfl))
  try simp only [Act.put, List.setIfInBounds_toArray, List.set_cons_zero, List.set_cons_succ]
  refine anyG_take (i := 1) (oi := ⟨_, _, _, _, _, _⟩) (v := ?_) rfl rfl (by kernel_rfl) (by kernel_rfl) (by kernel_rfl) (by kernel_rfl) (by kernel_rfl) (fun _ _ _ h => h) (Or.inl ⟨by rfl, ?_⟩) hS ?_
  rotate_left
  · (intro w' hSw; skip; go_simp; (try with_reducible rfl))
  try simp only [Act.put, List.setIfInBounds_toArray, List.set_cons_zero, List.set_cons_succ]
  refine anyG_take (i := 2) (oi := ⟨_, _, _, _, _, _⟩) (v := ?_) rfl rfl (by kernel_rfl) (by kernel_rfl) (by kernel_rfl) (by kernel_rfl) (by kernel_rfl) (fun _ _ _ h => h) (Or.inl ⟨by rfl, ?_⟩) hS ?_
  rotate_left
  · (intro w' hSw; obtain ⟨s1, s2⟩ := SC.out _ hSw; go_simp; (try with_reducible rfl))
  try simp only [Act.put, List.setIfInBounds_toArray, List.set_cons_zero, List.set_cons_succ]
  refine anyG_take (i := 4) (oi := ⟨_, _, _, _, _, _⟩) (v := ?_) rfl rfl (by kernel_rfl) (by kernel_rfl) (by kernel_rfl) (by kernel_rfl) (by kernel_rfl) (fun _ _ _ h => h) (Or.inl ⟨by rfl, ?_⟩) hS ?_
  rotate_left
  · (intro w' hSw; skip; go_simp; (try with_reducible rfl))
  try simp only [Act.put, List.setIfInBounds_toArray, List.set_cons_zero, List.set_cons_succ]
  refine anyG_take (i := 5) (oi := ⟨_, _, _, _, _, _⟩) (v := ?_) rfl rfl (by kernel_rfl) (by kernel_rfl) (by kernel_rfl) (by kernel_rfl) (by kernel_rfl) (fun _ _ _ h => h) (Or.inl ⟨by rfl, ?_⟩) hS ?_
  rotate_left
  · (intro w' hSw; skip; go_simp; (try with_reducible rfl))
  try simp only [Act.put, List.setIfInBounds_toArray, List.set_cons_zero, List.set_cons_succ]
  refine anyG_take (i := 6) (oi := ⟨_, _, _, _, _, _⟩) (v := ?_) rfl rfl (by kernel_rfl) (by kernel_rfl) (by kernel_rfl) (by kernel_rfl) (by kernel_rfl) (fun _ _ _ h => h) (Or.inl ⟨by rfl, ?_⟩) hS ?_
  rotate_left
  · (intro w' hSw; obtain ⟨s1, s2⟩ := SC.out _ hSw; go_simp; (try with_reducible rfl))
  try simp only [Act.put, List.setIfInBounds_toArray, List.set_cons_zero, List.set_cons_succ]
  refine anyG_all (rs := [3]) (by kernel_rfl) (by simp) (List.forall_mem_singleton.2 ?_)
  refine wpOp_step (o := ⟨_, _, _, _, _, _⟩) rfl (fun K' hK => ?_)
  have HK := Lib.hid hK
  clear hK
  rw [if_pos (by rfl)]
  go_simp
  refine (HCD.out w1.drew (HDU.out.dk.below (Below.refl _ _).drew)).mono ?_
  rintro e w2 ⟨rfl, Fd', hL⟩
  have hW := Went.disk (HDU.out.below (w1 := w1.drew) (Below.refl _ _).drew) hL
  have hS2 : Fr (Fd ++ Fm) w1 w2 := hS.and ⟨hW.fr.os, hW.fr.tape, hW.fr.output, hW.fr.size, hW.fr.block⟩
  have HW := Lib.hid hW
  clear hL hW hS
  have hS := hS2
  go_wp2_with fail
  refine HK.out _ _ ⟨fun _ => hS, ?_⟩
  clear HK
  try simp only [Act.put, List.setIfInBounds_toArray, List.set_cons_zero, List.set_cons_succ]
  refine anyG_all (rs := [7]) (by kernel_rfl) (by simp) (List.forall_mem_singleton.2 ?_)
  refine wpOp_step (o := ⟨_, _, _, _, _, _⟩) rfl (fun K' hK => ?_)
  have HK := Lib.hid hK
  clear hK
  rw [if_pos (by rfl)]
  go_simp
  refine (HCM.out w2 HW.out.duo.rf).mono ?_
  rintro e w3 ⟨rfl, Fm', hL⟩
  have hW3 := HW.out.trans (Went.ref HW.out.duo hL)
  have hS3 : Fr (Fd ++ Fm) w1 w3 := (show Fr (Fd ++ Fm) w1 w1.drew from (Fr.refl _ _).drew).and hW3.fr
  have HW3 := Lib.hid hW3
  clear hL hW3 hS
  have hS := hS3
  go_wp2_with fail
  refine HK.out _ _ ⟨fun _ => hS, ?_⟩
  clear HK
  try simp only [Act.put, List.setIfInBounds_toArray, List.set_cons_zero, List.set_cons_succ]
  refine anyG_all (rs := [8]) (by kernel_rfl) (by simp) (List.forall_mem_singleton.2 ?_)
  refine wpOp_step (o := ⟨_, _, _, _, _, _⟩) rfl (fun K' hK => ?_)
  have HK := Lib.hid hK
  clear hK
  rw [if_pos (by rfl)]
  go_simp
  refine HK.out _ _ ⟨fun _ => hS, ?_⟩
  clear HK
  try simp only [Act.put, List.setIfInBounds_toArray, List.set_cons_zero, List.set_cons_succ]
  refine anyG_all (rs := [9]) (by kernel_rfl) (by simp) (List.forall_mem_singleton.2 ?_)
  refine wpOp_step (o := ⟨_, _, _, _, _, _⟩) rfl (fun K' hK => ?_)
  have HK := Lib.hid hK
  clear hK
  rw [if_pos (by rfl)]
  go_simp
  refine HK.out _ _ ⟨fun h => absurd rfl h, anyG_done (by kernel_rfl) ?_⟩
  clear HK
  refine NoPanic.normal ?_
  clear hS hS2 hS3 SC q0
  go_wp2_with fail
  go_ret
  rw [PlayP, HPB.out, HPD.out, HPR.out]
  exact ⟨rfl, _, _, Went.start (HB1.out.trans (show Below w.heap.size w1 w1.drew from ((Below.refl _ _).drew).mono HB1.out.size)) HW3.out⟩
set_option maxRecDepth 100000 in
set_option maxHeartbeats 8000000 in
theorem plays3 {w : World} {p q : Nat} {Fd Fm : List Nat} {d : DiskT} {m : RefT} {x : OpT} (h : Duo w p q Fd Fm d m) (hd : d.steps ≤ 3999999999) (hm : m.count ≤ 3999999999) (hx : x.Ok) (hk : x.kind % 11 = 3) :
    Calls Try.prog 10 #[.pointer (some ⟨p, 0, none⟩), .pointer (some ⟨q, 0, none⟩), opV x] w (PlayP w p q Fd Fm d m x) := by
  have hb1 : Below w.heap.size w (w.alloc (.cells #[.int .u8 (x.kind : Int), .string x.name, .string x.dst, .int .i64 x.page, .int .u16 (x.long : Int), .int .u8 (x.fill.toNat : Int), .int .u64 (x.keep : Int)] 28)) := (Below.refl _ _).alloc (Nat.le_refl _) _
  have HB1 := Lib.hid hb1
  have HDU := Lib.hid (h.below hb1)
  have hbox := Go.heap_alloc_new w (.cells #[.int .u8 (x.kind : Int), .string x.name, .string x.dst, .int .i64 x.page, .int .u16 (x.long : Int), .int .u8 (x.fill.toNat : Int), .int .u64 (x.keep : Int)] 28)
  have HNB := Lib.hid (show w.heap.size ∉ Fd ++ Fm from fun hi => absurd (h.lt _ hi) (Nat.lt_irrefl _))
  have q0 : (w.alloc (.cells #[.int .u8 (x.kind : Int), .string x.name, .string x.dst, .int .i64 x.page, .int .u16 (x.long : Int), .int .u8 (x.fill.toNat : Int), .int .u64 (x.keep : Int)] 28)).cell? ⟨w.heap.size, 0, none⟩ = some (.int .u8 (x.kind : Int)) := cell_of (j := 0) hbox rfl
  have HBOX := Lib.hid hbox
  have HX := Lib.hid hx
  have HPB := Lib.hid (show playB d m x = ((renameD d x.name x.dst).1 == (renameR m x.name x.dst).1) from by unfold playB; rw [hk] <;> rfl)
  have HPD := Lib.hid (show playD d x = (renameD d x.name x.dst).2 from by unfold playD; rw [hk] <;> rfl)
  have HPR := Lib.hid (show playR m x = (renameR m x.name x.dst).2 from by unfold playR; rw [hk] <;> rfl)
  have hsc : ∀ V : World, Fr (Fd ++ Fm) (w.alloc (.cells #[.int .u8 (x.kind : Int), .string x.name, .string x.dst, .int .i64 x.page, .int .u16 (x.long : Int), .int .u8 (x.fill.toNat : Int), .int .u64 (x.keep : Int)] 28)) V → V.cell? ⟨w.heap.size, 1, none⟩ = some (.string x.name) ∧ V.cell? ⟨w.heap.size, 2, none⟩ = some (.string x.dst) := fun V hV =>
    ⟨hV.cellKept HNB.out (cell_of (j := 1) hbox rfl), hV.cellKept HNB.out (cell_of (j := 2) hbox rfl)⟩
  have SC := Lib.hid hsc
  have HCD := Lib.hid (fun W (hW : DkO W p Fd d) => hW.rename hd x.name x.dst)
  have HCM := Lib.hid (fun W (hW : RfO W q Fm m) => hW.rename hm x.name x.dst)
  obtain ⟨r1, hr1⟩ : ∃ r, renameD d x.name x.dst = r := ⟨_, rfl⟩
  obtain ⟨r2, hr2⟩ : ∃ r, renameR m x.name x.dst = r := ⟨_, rfl⟩
  rw [hr1] at HCD HPB HPD
  rw [hr2] at HCM HPB HPR
  clear hsc hr1 hr2
  have hmm : Int.tmod (x.kind : Int) 11 = 3 := by rw [Int.tmod_eq_emod_of_nonneg (by omega)]; omega
  clear h hb1 hbox hk hx
  unfold opV opCs
  go_enter Try.func10, Try.ntmps10
  go_wp2_with fail
  generalize w.alloc (.cells #[.int .u8 (x.kind : Int), .string x.name, .string x.dst, .int .i64 x.page, .int .u16 (x.long : Int), .int .u8 (x.fill.toNat : Int), .int .u64 (x.keep : Int)] 28) = w1 at *
  refine wp_region_noPanic ?_
  refine wp_region_any (by kernel_rfl) (anyG_any (S := fun V : World => Fr (Fd ++ Fm) w1 V) (n := 13) _ _ _ _ ?_)
  have hS : Fr (Fd ++ Fm) w1 w1.drew := (Fr.refl _ _).drew
  change AnyG _ _ _ _ _ _ 14 (Array.replicate 14 false) _ w1.drew
  refine anyG_take (i := 0) (oi := ⟨_, _, _, _, _, _⟩) (v := ?_) rfl rfl (by kernel_rfl) (by kernel_rfl) (by kernel_rfl) (by kernel_rfl) (by kernel_rfl) (fun _ _ _ h => h) (Or.inl ⟨by rfl, ?_⟩) hS ?_
  rotate_left
  · (intro w' hSw; skip; go_simp; (try with_reducible rfl))
  try simp only [Act.put, List.setIfInBounds_toArray, List.set_cons_zero, List.set_cons_succ]
  refine anyG_take (i := 1) (oi := ⟨_, _, _, _, _, _⟩) (v := ?_) rfl rfl (by kernel_rfl) (by kernel_rfl) (by kernel_rfl) (by kernel_rfl) (by kernel_rfl) (fun _ _ _ h => h) (Or.inl ⟨by rfl, ?_⟩) hS ?_
  rotate_left
  · (intro w' hSw; skip; go_simp; (try with_reducible rfl))
  try simp only [Act.put, List.setIfInBounds_toArray, List.set_cons_zero, List.set_cons_succ]
  refine anyG_take (i := 2) (oi := ⟨_, _, _, _, _, _⟩) (v := ?_) rfl rfl (by kernel_rfl) (by kernel_rfl) (by kernel_rfl) (by kernel_rfl) (by kernel_rfl) (fun _ _ _ h => h) (Or.inl ⟨by rfl, ?_⟩) hS ?_
  rotate_left
  · (intro w' hSw; obtain ⟨s1, s2⟩ := SC.out _ hSw; go_simp; (try with_reducible rfl))
  try simp only [Act.put, List.setIfInBounds_toArray, List.set_cons_zero, List.set_cons_succ]
  refine anyG_take (i := 3) (oi := ⟨_, _, _, _, _, _⟩) (v := ?_) rfl rfl (by kernel_rfl) (by kernel_rfl) (by kernel_rfl) (by kernel_rfl) (by kernel_rfl) (fun _ _ _ h => h) (Or.inl ⟨by rfl, ?_⟩) hS ?_
  rotate_left
  · (intro w' hSw; skip; go_simp; (try with_reducible rfl))
  try simp only [Act.put, List.setIfInBounds_toArray, List.set_cons_zero, List.set_cons_succ]
  refine anyG_take (i := 4) (oi := ⟨_, _, _, _, _, _⟩) (v := ?_) rfl rfl (by kernel_rfl) (by kernel_rfl) (by kernel_rfl) (by kernel_rfl) (by kernel_rfl) (fun _ _ _ h => h) (Or.inl ⟨by rfl, ?_⟩) hS ?_
  rotate_left
  · (intro w' hSw; obtain ⟨s1, s2⟩ := SC.out _ hSw; go_simp; (try with_reducible rfl))
  try simp only [Act.put, List.setIfInBounds_toArray, List.set_cons_zero, List.set_cons_succ]
  refine anyG_take (i := 6) (oi := ⟨_, _, _, _, _, _⟩) (v := ?_) rfl rfl (by kernel_rfl) (by kernel_rfl) (by kernel_rfl) (by kernel_rfl) (by kernel_rfl) (fun _ _ _ h => h) (Or.inl ⟨by rfl, ?_⟩) hS ?_
  rotate_left
  · (intro w' hSw; skip; go_simp; (try with_reducible rfl))
  try simp only [Act.put, List.setIfInBounds_toArray, List.set_cons_zero, List.set_cons_succ]
  refine anyG_take (i := 7) (oi := ⟨_, _, _, _, _, _⟩) (v := ?_) rfl rfl (by kernel_rfl) (by kernel_rfl) (by kernel_rfl) (by kernel_rfl) (by kernel_rfl) (fun _ _ _ h => h) (Or.inl ⟨by rfl, ?_⟩) hS ?_
  rotate_left
  · (intro w' hSw; skip; go_simp; (try with_reducible rfl))
  try simp only [Act.put, List.setIfInBounds_toArray, List.set_cons_zero, List.set_cons_succ]
  refine anyG_take (i := 8) (oi := ⟨_, _, _, _, _, _⟩) (v := ?_) rfl rfl (by kernel_rfl) (by kernel_rfl) (by kernel_rfl) (by kernel_rfl) (by kernel_rfl) (fun _ _ _ h => h) (Or.inl ⟨by rfl, ?_⟩) hS ?_
  rotate_left
  · (intro w' hSw; obtain ⟨s1, s2⟩ := SC.out _ hSw; go_simp; (try with_reducible rfl))
  try simp only [Act.put, List.setIfInBounds_toArray, List.set_cons_zero, List.set_cons_succ]
  refine anyG_take (i := 9) (oi := ⟨_, _, _, _, _, _⟩) (v := ?_) rfl rfl (by kernel_rfl) (by kernel_rfl) (by kernel_rfl) (by kernel_rfl) (by kernel_rfl) (fun _ _ _ h => h) (Or.inl ⟨by rfl, ?_⟩) hS ?_
  rotate_left
  · (intro w' hSw; skip; go_simp; (try with_reducible rfl))
  try simp only [Act.put, List.setIfInBounds_toArray, List.set_cons_zero, List.set_cons_succ]
  refine anyG_take (i := 10) (oi := ⟨_, _, _, _, _, _⟩) (v := ?_) rfl rfl (by kernel_rfl) (by kernel_rfl) (by kernel_rfl) (by kernel_rfl) (by kernel_rfl) (fun _ _ _ h => h) (Or.inl ⟨by rfl, ?_⟩) hS ?_
  rotate_left
  · (intro w' hSw; obtain ⟨s1, s2⟩ := SC.out _ hSw; go_simp; (try with_reducible rfl))
  try simp only [Act.put, List.setIfInBounds_toArray, List.set_cons_zero, List.set_cons_succ]
  refine anyG_all (rs := [5]) (by kernel_rfl) (by simp) (List.forall_mem_singleton.2 ?_)
  refine wpOp_step (o := ⟨_, _, _, _, _, _⟩) rfl (fun K' hK => ?_)
  have HK := Lib.hid hK
  clear hK
  rw [if_pos (by rfl)]
  go_simp
  refine (HCD.out w1.drew (HDU.out.dk.below (Below.refl _ _).drew)).mono ?_
  rintro e w2 ⟨rfl, Fd', hL⟩
  have hW := Went.disk (HDU.out.below (w1 := w1.drew) (Below.refl _ _).drew) hL
  have hS2 : Fr (Fd ++ Fm) w1 w2 := hS.and ⟨hW.fr.os, hW.fr.tape, hW.fr.output, hW.fr.size, hW.fr.block⟩
  have HW := Lib.hid hW
  clear hL hW hS
  have hS := hS2
  go_wp2_with fail
  refine HK.out _ _ ⟨fun _ => hS, ?_⟩
  clear HK
  try simp only [Act.put, List.setIfInBounds_toArray, List.set_cons_zero, List.set_cons_succ]
  refine anyG_all (rs := [11]) (by kernel_rfl) (by simp) (List.forall_mem_singleton.2 ?_)
  refine wpOp_step (o := ⟨_, _, _, _, _, _⟩) rfl (fun K' hK => ?_)
  have HK := Lib.hid hK
  clear hK
  rw [if_pos (by rfl)]
  go_simp
  refine (HCM.out w2 HW.out.duo.rf).mono ?_
  rintro e w3 ⟨rfl, Fm', hL⟩
  have hW3 := HW.out.trans (Went.ref HW.out.duo hL)
  have hS3 : Fr (Fd ++ Fm) w1 w3 := (show Fr (Fd ++ Fm) w1 w1.drew from (Fr.refl _ _).drew).and hW3.fr
  have HW3 := Lib.hid hW3
  clear hL hW3 hS
  have hS := hS3
  go_wp2_with fail
  refine HK.out _ _ ⟨fun _ => hS, ?_⟩
  clear HK
  try simp only [Act.put, List.setIfInBounds_toArray, List.set_cons_zero, List.set_cons_succ]
  refine anyG_all (rs := [12]) (by kernel_rfl) (by simp) (List.forall_mem_singleton.2 ?_)
  refine wpOp_step (o := ⟨_, _, _, _, _, _⟩) rfl (fun K' hK => ?_)
  have HK := Lib.hid hK
  clear hK
  rw [if_pos (by rfl)]
  go_simp
  refine HK.out _ _ ⟨fun _ => hS, ?_⟩
  clear HK
  try simp only [Act.put, List.setIfInBounds_toArray, List.set_cons_zero, List.set_cons_succ]
  refine anyG_all (rs := [13]) (by kernel_rfl) (by simp) (List.forall_mem_singleton.2 ?_)
  refine wpOp_step (o := ⟨_, _, _, _, _, _⟩) rfl (fun K' hK => ?_)
  have HK := Lib.hid hK
  clear hK
  rw [if_pos (by rfl)]
  go_simp
  refine HK.out _ _ ⟨fun h => absurd rfl h, anyG_done (by kernel_rfl) ?_⟩
  clear HK
  refine NoPanic.normal ?_
  clear hS hS2 hS3 SC q0
  go_wp2_with fail
  go_ret
  rw [PlayP, HPB.out, HPD.out, HPR.out]
  exact ⟨rfl, _, _, Went.start (HB1.out.trans (show Below w.heap.size w1 w1.drew from ((Below.refl _ _).drew).mono HB1.out.size)) HW3.out⟩
set_option maxRecDepth 100000 in
set_option maxHeartbeats 8000000 in
theorem plays4 {w : World} {p q : Nat} {Fd Fm : List Nat} {d : DiskT} {m : RefT} {x : OpT} (h : Duo w p q Fd Fm d m) (hd : d.steps ≤ 3999999999) (hm : m.count ≤ 3999999999) (hx : x.Ok) (hk : x.kind % 11 = 4) :
    Calls Try.prog 10 #[.pointer (some ⟨p, 0, none⟩), .pointer (some ⟨q, 0, none⟩), opV x] w (PlayP w p q Fd Fm d m x) := by
  have hb1 : Below w.heap.size w (w.alloc (.cells #[.int .u8 (x.kind : Int), .string x.name, .string x.dst, .int .i64 x.page, .int .u16 (x.long : Int), .int .u8 (x.fill.toNat : Int), .int .u64 (x.keep : Int)] 28)) := (Below.refl _ _).alloc (Nat.le_refl _) _
  have HB1 := Lib.hid hb1
  have HDU := Lib.hid (h.below hb1)
  have hbox := Go.heap_alloc_new w (.cells #[.int .u8 (x.kind : Int), .string x.name, .string x.dst, .int .i64 x.page, .int .u16 (x.long : Int), .int .u8 (x.fill.toNat : Int), .int .u64 (x.keep : Int)] 28)
  have HNB := Lib.hid (show w.heap.size ∉ Fd ++ Fm from fun hi => absurd (h.lt _ hi) (Nat.lt_irrefl _))
  have q0 : (w.alloc (.cells #[.int .u8 (x.kind : Int), .string x.name, .string x.dst, .int .i64 x.page, .int .u16 (x.long : Int), .int .u8 (x.fill.toNat : Int), .int .u64 (x.keep : Int)] 28)).cell? ⟨w.heap.size, 0, none⟩ = some (.int .u8 (x.kind : Int)) := cell_of (j := 0) hbox rfl
  have HBOX := Lib.hid hbox
  have HX := Lib.hid hx
  have HPB := Lib.hid (show playB d m x = ((removeD d x.name).1 == (removeR m x.name).1) from by unfold playB; rw [hk] <;> rfl)
  have HPD := Lib.hid (show playD d x = (removeD d x.name).2 from by unfold playD; rw [hk] <;> rfl)
  have HPR := Lib.hid (show playR m x = (removeR m x.name).2 from by unfold playR; rw [hk] <;> rfl)
  have hsc : ∀ V : World, Fr (Fd ++ Fm) (w.alloc (.cells #[.int .u8 (x.kind : Int), .string x.name, .string x.dst, .int .i64 x.page, .int .u16 (x.long : Int), .int .u8 (x.fill.toNat : Int), .int .u64 (x.keep : Int)] 28)) V → V.cell? ⟨w.heap.size, 1, none⟩ = some (.string x.name) ∧ V.cell? ⟨w.heap.size, 2, none⟩ = some (.string x.dst) := fun V hV =>
    ⟨hV.cellKept HNB.out (cell_of (j := 1) hbox rfl), hV.cellKept HNB.out (cell_of (j := 2) hbox rfl)⟩
  have SC := Lib.hid hsc
  have HCD := Lib.hid (fun W (hW : DkO W p Fd d) => hW.remove hd x.name)
  have HCM := Lib.hid (fun W (hW : RfO W q Fm m) => hW.remove hm x.name)
  obtain ⟨r1, hr1⟩ : ∃ r, removeD d x.name = r := ⟨_, rfl⟩
  obtain ⟨r2, hr2⟩ : ∃ r, removeR m x.name = r := ⟨_, rfl⟩
  rw [hr1] at HCD HPB HPD
  rw [hr2] at HCM HPB HPR
  clear hsc hr1 hr2
  have hmm : Int.tmod (x.kind : Int) 11 = 4 := by rw [Int.tmod_eq_emod_of_nonneg (by omega)]; omega
  clear h hb1 hbox hk hx
  unfold opV opCs
  go_enter Try.func10, Try.ntmps10
  go_wp2_with fail
  generalize w.alloc (.cells #[.int .u8 (x.kind : Int), .string x.name, .string x.dst, .int .i64 x.page, .int .u16 (x.long : Int), .int .u8 (x.fill.toNat : Int), .int .u64 (x.keep : Int)] 28) = w1 at *
  refine wp_region_noPanic ?_
  refine wp_region_any (by kernel_rfl) (anyG_any (S := fun V : World => Fr (Fd ++ Fm) w1 V) (n := 9) _ _ _ _ ?_)
  have hS : Fr (Fd ++ Fm) w1 w1.drew := (Fr.refl _ _).drew
  change AnyG _ _ _ _ _ _ 10 (Array.replicate 10 false) _ w1.drew
  refine anyG_take (i := 0) (oi := ⟨_, _, _, _, _, _⟩) (v := ?_) rfl rfl (by kernel_rfl) (by kernel_rfl) (by kernel_rfl) (by kernel_rfl) (by kernel_rfl) (fun _ _ _ h => h) (Or.inl ⟨by rfl, ?_⟩) hS ?_
  rotate_left
  · (intro w' hSw; skip; go_simp; (try with_reducible rfl))
  try simp only [Act.put, List.setIfInBounds_toArray, List.set_cons_zero, List.set_cons_succ]
  refine anyG_take (i := 1) (oi := ⟨_, _, _, _, _, _⟩) (v := ?_) rfl rfl (by kernel_rfl) (by kernel_rfl) (by kernel_rfl) (by kernel_rfl) (by kernel_rfl) (fun _ _ _ h => h) (Or.inl ⟨by rfl, ?_⟩) hS ?_
  rotate_left
  · (intro w' hSw; skip; go_simp; (try with_reducible rfl))
  try simp only [Act.put, List.setIfInBounds_toArray, List.set_cons_zero, List.set_cons_succ]
  refine anyG_take (i := 2) (oi := ⟨_, _, _, _, _, _⟩) (v := ?_) rfl rfl (by kernel_rfl) (by kernel_rfl) (by kernel_rfl) (by kernel_rfl) (by kernel_rfl) (fun _ _ _ h => h) (Or.inl ⟨by rfl, ?_⟩) hS ?_
  rotate_left
  · (intro w' hSw; obtain ⟨s1, s2⟩ := SC.out _ hSw; go_simp; (try with_reducible rfl))
  try simp only [Act.put, List.setIfInBounds_toArray, List.set_cons_zero, List.set_cons_succ]
  refine anyG_take (i := 4) (oi := ⟨_, _, _, _, _, _⟩) (v := ?_) rfl rfl (by kernel_rfl) (by kernel_rfl) (by kernel_rfl) (by kernel_rfl) (by kernel_rfl) (fun _ _ _ h => h) (Or.inl ⟨by rfl, ?_⟩) hS ?_
  rotate_left
  · (intro w' hSw; skip; go_simp; (try with_reducible rfl))
  try simp only [Act.put, List.setIfInBounds_toArray, List.set_cons_zero, List.set_cons_succ]
  refine anyG_take (i := 5) (oi := ⟨_, _, _, _, _, _⟩) (v := ?_) rfl rfl (by kernel_rfl) (by kernel_rfl) (by kernel_rfl) (by kernel_rfl) (by kernel_rfl) (fun _ _ _ h => h) (Or.inl ⟨by rfl, ?_⟩) hS ?_
  rotate_left
  · (intro w' hSw; skip; go_simp; (try with_reducible rfl))
  try simp only [Act.put, List.setIfInBounds_toArray, List.set_cons_zero, List.set_cons_succ]
  refine anyG_take (i := 6) (oi := ⟨_, _, _, _, _, _⟩) (v := ?_) rfl rfl (by kernel_rfl) (by kernel_rfl) (by kernel_rfl) (by kernel_rfl) (by kernel_rfl) (fun _ _ _ h => h) (Or.inl ⟨by rfl, ?_⟩) hS ?_
  rotate_left
  · (intro w' hSw; obtain ⟨s1, s2⟩ := SC.out _ hSw; go_simp; (try with_reducible rfl))
  try simp only [Act.put, List.setIfInBounds_toArray, List.set_cons_zero, List.set_cons_succ]
  refine anyG_all (rs := [3]) (by kernel_rfl) (by simp) (List.forall_mem_singleton.2 ?_)
  refine wpOp_step (o := ⟨_, _, _, _, _, _⟩) rfl (fun K' hK => ?_)
  have HK := Lib.hid hK
  clear hK
  rw [if_pos (by rfl)]
  go_simp
  refine (HCD.out w1.drew (HDU.out.dk.below (Below.refl _ _).drew)).mono ?_
  rintro e w2 ⟨rfl, Fd', hL⟩
  have hW := Went.disk (HDU.out.below (w1 := w1.drew) (Below.refl _ _).drew) hL
  have hS2 : Fr (Fd ++ Fm) w1 w2 := hS.and ⟨hW.fr.os, hW.fr.tape, hW.fr.output, hW.fr.size, hW.fr.block⟩
  have HW := Lib.hid hW
  clear hL hW hS
  have hS := hS2
  go_wp2_with fail
  refine HK.out _ _ ⟨fun _ => hS, ?_⟩
  clear HK
  try simp only [Act.put, List.setIfInBounds_toArray, List.set_cons_zero, List.set_cons_succ]
  refine anyG_all (rs := [7]) (by kernel_rfl) (by simp) (List.forall_mem_singleton.2 ?_)
  refine wpOp_step (o := ⟨_, _, _, _, _, _⟩) rfl (fun K' hK => ?_)
  have HK := Lib.hid hK
  clear hK
  rw [if_pos (by rfl)]
  go_simp
  refine (HCM.out w2 HW.out.duo.rf).mono ?_
  rintro e w3 ⟨rfl, Fm', hL⟩
  have hW3 := HW.out.trans (Went.ref HW.out.duo hL)
  have hS3 : Fr (Fd ++ Fm) w1 w3 := (show Fr (Fd ++ Fm) w1 w1.drew from (Fr.refl _ _).drew).and hW3.fr
  have HW3 := Lib.hid hW3
  clear hL hW3 hS
  have hS := hS3
  go_wp2_with fail
  refine HK.out _ _ ⟨fun _ => hS, ?_⟩
  clear HK
  try simp only [Act.put, List.setIfInBounds_toArray, List.set_cons_zero, List.set_cons_succ]
  refine anyG_all (rs := [8]) (by kernel_rfl) (by simp) (List.forall_mem_singleton.2 ?_)
  refine wpOp_step (o := ⟨_, _, _, _, _, _⟩) rfl (fun K' hK => ?_)
  have HK := Lib.hid hK
  clear hK
  rw [if_pos (by rfl)]
  go_simp
  refine HK.out _ _ ⟨fun _ => hS, ?_⟩
  clear HK
  try simp only [Act.put, List.setIfInBounds_toArray, List.set_cons_zero, List.set_cons_succ]
  refine anyG_all (rs := [9]) (by kernel_rfl) (by simp) (List.forall_mem_singleton.2 ?_)
  refine wpOp_step (o := ⟨_, _, _, _, _, _⟩) rfl (fun K' hK => ?_)
  have HK := Lib.hid hK
  clear hK
  rw [if_pos (by rfl)]
  go_simp
  refine HK.out _ _ ⟨fun h => absurd rfl h, anyG_done (by kernel_rfl) ?_⟩
  clear HK
  refine NoPanic.normal ?_
  clear hS hS2 hS3 SC q0
  go_wp2_with fail
  go_ret
  rw [PlayP, HPB.out, HPD.out, HPR.out]
  exact ⟨rfl, _, _, Went.start (HB1.out.trans (show Below w.heap.size w1 w1.drew from ((Below.refl _ _).drew).mono HB1.out.size)) HW3.out⟩
set_option maxRecDepth 100000 in
set_option maxHeartbeats 8000000 in
theorem plays6 {w : World} {p q : Nat} {Fd Fm : List Nat} {d : DiskT} {m : RefT} {x : OpT} (h : Duo w p q Fd Fm d m) (hd : d.steps ≤ 3999999999) (hm : m.count ≤ 3999999999) (hx : x.Ok) (hk : x.kind % 11 = 6) :
    Calls Try.prog 10 #[.pointer (some ⟨p, 0, none⟩), .pointer (some ⟨q, 0, none⟩), opV x] w (PlayP w p q Fd Fm d m x) := by
  have hb1 : Below w.heap.size w (w.alloc (.cells #[.int .u8 (x.kind : Int), .string x.name, .string x.dst, .int .i64 x.page, .int .u16 (x.long : Int), .int .u8 (x.fill.toNat : Int), .int .u64 (x.keep : Int)] 28)) := (Below.refl _ _).alloc (Nat.le_refl _) _
  have HB1 := Lib.hid hb1
  have HDU := Lib.hid (h.below hb1)
  have hbox := Go.heap_alloc_new w (.cells #[.int .u8 (x.kind : Int), .string x.name, .string x.dst, .int .i64 x.page, .int .u16 (x.long : Int), .int .u8 (x.fill.toNat : Int), .int .u64 (x.keep : Int)] 28)
  have HNB := Lib.hid (show w.heap.size ∉ Fd ++ Fm from fun hi => absurd (h.lt _ hi) (Nat.lt_irrefl _))
  have q0 : (w.alloc (.cells #[.int .u8 (x.kind : Int), .string x.name, .string x.dst, .int .i64 x.page, .int .u16 (x.long : Int), .int .u8 (x.fill.toNat : Int), .int .u64 (x.keep : Int)] 28)).cell? ⟨w.heap.size, 0, none⟩ = some (.int .u8 (x.kind : Int)) := cell_of (j := 0) hbox rfl
  have HBOX := Lib.hid hbox
  have HX := Lib.hid hx
  have HPB := Lib.hid (show playB d m x = (((lenD d x.name).2 == (lenR m x.name).2) && ((lenD d x.name).1 == (lenR m x.name).1)) from by unfold playB; rw [hk] <;> rfl)
  have HPD := Lib.hid (show playD d x = d from by unfold playD; rw [hk] <;> rfl)
  have HPR := Lib.hid (show playR m x = m from by unfold playR; rw [hk] <;> rfl)
  have q1 : (w.alloc (.cells #[.int .u8 (x.kind : Int), .string x.name, .string x.dst, .int .i64 x.page, .int .u16 (x.long : Int), .int .u8 (x.fill.toNat : Int), .int .u64 (x.keep : Int)] 28)).cell? ⟨w.heap.size, 1, none⟩ = some (.string x.name) := cell_of (j := 1) hbox rfl
  have HCD := Lib.hid (fun W (hW : DkO W p Fd d) => hW.len x.name)
  have HCM := Lib.hid (fun W (hW : RfO W q Fm m) => hW.len (Nat.le_trans hm (by decide)) x.name)
  obtain ⟨⟨r1, n1⟩, hr1⟩ : ∃ r, lenD d x.name = r := ⟨_, rfl⟩
  obtain ⟨⟨r2, n2⟩, hr2⟩ : ∃ r, lenR m x.name = r := ⟨_, rfl⟩
  rw [hr1] at HCD HPB
  rw [hr2] at HCM HPB
  clear hr1 hr2
  have hmm : Int.tmod (x.kind : Int) 11 = 6 := by rw [Int.tmod_eq_emod_of_nonneg (by omega)]; omega
  clear h hb1 hbox hk hx
  unfold opV opCs
  go_enter Try.func10, Try.ntmps10
  go_wp2_with fail
  refine (HCD.out _ HDU.out.dk).mono ?_
  rintro e w2 ⟨rfl, hw2⟩
  subst hw2
  go_wp2_with fail
  refine (HCM.out _ HDU.out.rf).mono ?_
  rintro e w3 ⟨rfl, hb3⟩
  have HB3 := Lib.hid hb3
  clear hb3
  have HE : ∀ b, b = (((n1 : Int) == (n2 : Int)) && (r1 == r2)) → PlayP w p q Fd Fm d m x (.returned (.bool b)) w3 := by
    rintro b rfl
    rw [PlayP, HPB.out, HPD.out, HPR.out]
    refine ⟨by rw [natbeq], _, _, Went.start HB1.out ((Went.refl HDU.out).below HB3.out)⟩
  have HEE := Lib.hid HE
  clear HE
  by_cases e1 : (n1 : Int) = n2
  · by_cases e2 : r1 = r2
    · go_wp2_with fail
      go_ret
      exact HEE.out _ (by simp [e1, e2])
    · go_wp2_with fail
      go_ret
      exact HEE.out _ (by simp [e1, e2])
  · go_wp2_with fail
    go_ret
    exact HEE.out _ (by simp [e1])
set_option maxRecDepth 100000 in
set_option maxHeartbeats 8000000 in
theorem plays7 {w : World} {p q : Nat} {Fd Fm : List Nat} {d : DiskT} {m : RefT} {x : OpT} (h : Duo w p q Fd Fm d m) (hd : d.steps ≤ 3999999999) (hm : m.count ≤ 3999999999) (hx : x.Ok) (hk : x.kind % 11 = 7) :
    Calls Try.prog 10 #[.pointer (some ⟨p, 0, none⟩), .pointer (some ⟨q, 0, none⟩), opV x] w (PlayP w p q Fd Fm d m x) := by
  have hb1 : Below w.heap.size w (w.alloc (.cells #[.int .u8 (x.kind : Int), .string x.name, .string x.dst, .int .i64 x.page, .int .u16 (x.long : Int), .int .u8 (x.fill.toNat : Int), .int .u64 (x.keep : Int)] 28)) := (Below.refl _ _).alloc (Nat.le_refl _) _
  have HB1 := Lib.hid hb1
  have HDU := Lib.hid (h.below hb1)
  have hbox := Go.heap_alloc_new w (.cells #[.int .u8 (x.kind : Int), .string x.name, .string x.dst, .int .i64 x.page, .int .u16 (x.long : Int), .int .u8 (x.fill.toNat : Int), .int .u64 (x.keep : Int)] 28)
  have HNB := Lib.hid (show w.heap.size ∉ Fd ++ Fm from fun hi => absurd (h.lt _ hi) (Nat.lt_irrefl _))
  have q0 : (w.alloc (.cells #[.int .u8 (x.kind : Int), .string x.name, .string x.dst, .int .i64 x.page, .int .u16 (x.long : Int), .int .u8 (x.fill.toNat : Int), .int .u64 (x.keep : Int)] 28)).cell? ⟨w.heap.size, 0, none⟩ = some (.int .u8 (x.kind : Int)) := cell_of (j := 0) hbox rfl
  have HBOX := Lib.hid hbox
  have HX := Lib.hid hx
  have HPB := Lib.hid (show playB d m x = true from by unfold playB; rw [hk] <;> rfl)
  have HPD := Lib.hid (show playD d x = failD d x.page x.keep from by unfold playD; rw [hk] <;> rfl)
  have HPR := Lib.hid (show playR m x = failR m x.page x.keep from by unfold playR; rw [hk] <;> rfl)
  have q3 : (w.alloc (.cells #[.int .u8 (x.kind : Int), .string x.name, .string x.dst, .int .i64 x.page, .int .u16 (x.long : Int), .int .u8 (x.fill.toNat : Int), .int .u64 (x.keep : Int)] 28)).cell? ⟨w.heap.size, 3, none⟩ = some (.int .i64 x.page) := cell_of (j := 3) hbox rfl
  have q6 : (w.alloc (.cells #[.int .u8 (x.kind : Int), .string x.name, .string x.dst, .int .i64 x.page, .int .u16 (x.long : Int), .int .u8 (x.fill.toNat : Int), .int .u64 (x.keep : Int)] 28)).cell? ⟨w.heap.size, 6, none⟩ = some (.int .u64 (x.keep : Int)) := cell_of (j := 6) hbox rfl
  have hmm : Int.tmod (x.kind : Int) 11 = 7 := by rw [Int.tmod_eq_emod_of_nonneg (by omega)]; omega
  clear h hb1 hbox hk hx
  unfold opV opCs
  go_enter Try.func10, Try.ntmps10
  go_wp2_with fail
  refine (HDU.out.dk.fail HX.out.page.2 HX.out.keep).mono ?_
  rintro e w2 ⟨rfl, Fd', hL⟩
  have hW := Went.disk HDU.out hL
  have t3 := hW.fr.cellKept HNB.out q3
  have t6 := hW.fr.cellKept HNB.out q6
  have HW := Lib.hid hW
  clear hL hW q3 q6
  go_wp2_with fail
  refine (HW.out.duo.rf.fail HX.out.page.2 HX.out.keep).mono ?_
  rintro e w3 ⟨rfl, Fm', hL⟩
  have HW3 := Lib.hid (HW.out.trans (Went.ref HW.out.duo hL))
  clear hL
  go_wp2_with fail
  go_ret
  rw [PlayP, HPB.out, HPD.out, HPR.out]
  exact ⟨rfl, _, _, Went.start HB1.out HW3.out⟩
set_option maxRecDepth 100000 in
set_option maxHeartbeats 8000000 in
theorem plays8 {w : World} {p q : Nat} {Fd Fm : List Nat} {d : DiskT} {m : RefT} {x : OpT} (h : Duo w p q Fd Fm d m) (hd : d.steps ≤ 3999999999) (hm : m.count ≤ 3999999999) (hx : x.Ok) (hk : x.kind % 11 = 8) :
    Calls Try.prog 10 #[.pointer (some ⟨p, 0, none⟩), .pointer (some ⟨q, 0, none⟩), opV x] w (PlayP w p q Fd Fm d m x) := by
  have hb1 : Below w.heap.size w (w.alloc (.cells #[.int .u8 (x.kind : Int), .string x.name, .string x.dst, .int .i64 x.page, .int .u16 (x.long : Int), .int .u8 (x.fill.toNat : Int), .int .u64 (x.keep : Int)] 28)) := (Below.refl _ _).alloc (Nat.le_refl _) _
  have HB1 := Lib.hid hb1
  have HDU := Lib.hid (h.below hb1)
  have hbox := Go.heap_alloc_new w (.cells #[.int .u8 (x.kind : Int), .string x.name, .string x.dst, .int .i64 x.page, .int .u16 (x.long : Int), .int .u8 (x.fill.toNat : Int), .int .u64 (x.keep : Int)] 28)
  have HNB := Lib.hid (show w.heap.size ∉ Fd ++ Fm from fun hi => absurd (h.lt _ hi) (Nat.lt_irrefl _))
  have q0 : (w.alloc (.cells #[.int .u8 (x.kind : Int), .string x.name, .string x.dst, .int .i64 x.page, .int .u16 (x.long : Int), .int .u8 (x.fill.toNat : Int), .int .u64 (x.keep : Int)] 28)).cell? ⟨w.heap.size, 0, none⟩ = some (.int .u8 (x.kind : Int)) := cell_of (j := 0) hbox rfl
  have HBOX := Lib.hid hbox
  have HX := Lib.hid hx
  have HPB := Lib.hid (show playB d m x = true from by unfold playB; rw [hk] <;> rfl)
  have HPD := Lib.hid (show playD d x = onD d from by unfold playD; rw [hk] <;> rfl)
  have HPR := Lib.hid (show playR m x = onR m from by unfold playR; rw [hk] <;> rfl)
  have hmm : Int.tmod (x.kind : Int) 11 = 8 := by rw [Int.tmod_eq_emod_of_nonneg (by omega)]; omega
  clear h hb1 hbox hk hx
  unfold opV opCs
  go_enter Try.func10, Try.ntmps10
  go_wp2_with fail
  refine (HDU.out.dk.on (Nat.le_trans hd (by decide))).mono ?_
  rintro e w2 ⟨rfl, Fd', hL⟩
  have HW := Lib.hid (Went.disk HDU.out hL)
  clear hL
  go_wp2_with fail
  refine (HW.out.duo.rf.on (Nat.le_trans hm (by decide))).mono ?_
  rintro e w3 ⟨rfl, Fm', hL⟩
  have HW3 := Lib.hid (HW.out.trans (Went.ref HW.out.duo hL))
  clear hL
  go_wp2_with fail
  go_ret
  rw [PlayP, HPB.out, HPD.out, HPR.out]
  exact ⟨rfl, _, _, Went.start HB1.out HW3.out⟩
set_option maxRecDepth 100000 in
set_option maxHeartbeats 8000000 in
theorem plays9 {w : World} {p q : Nat} {Fd Fm : List Nat} {d : DiskT} {m : RefT} {x : OpT} (h : Duo w p q Fd Fm d m) (hd : d.steps ≤ 3999999999) (hm : m.count ≤ 3999999999) (hx : x.Ok) (hk : 9 ≤ x.kind % 11) :
    Calls Try.prog 10 #[.pointer (some ⟨p, 0, none⟩), .pointer (some ⟨q, 0, none⟩), opV x] w (PlayP w p q Fd Fm d m x) := by
  have hb1 : Below w.heap.size w (w.alloc (.cells #[.int .u8 (x.kind : Int), .string x.name, .string x.dst, .int .i64 x.page, .int .u16 (x.long : Int), .int .u8 (x.fill.toNat : Int), .int .u64 (x.keep : Int)] 28)) := (Below.refl _ _).alloc (Nat.le_refl _) _
  have HB1 := Lib.hid hb1
  have HDU := Lib.hid (h.below hb1)
  have hbox := Go.heap_alloc_new w (.cells #[.int .u8 (x.kind : Int), .string x.name, .string x.dst, .int .i64 x.page, .int .u16 (x.long : Int), .int .u8 (x.fill.toNat : Int), .int .u64 (x.keep : Int)] 28)
  have HNB := Lib.hid (show w.heap.size ∉ Fd ++ Fm from fun hi => absurd (h.lt _ hi) (Nat.lt_irrefl _))
  have q0 : (w.alloc (.cells #[.int .u8 (x.kind : Int), .string x.name, .string x.dst, .int .i64 x.page, .int .u16 (x.long : Int), .int .u8 (x.fill.toNat : Int), .int .u64 (x.keep : Int)] 28)).cell? ⟨w.heap.size, 0, none⟩ = some (.int .u8 (x.kind : Int)) := cell_of (j := 0) hbox rfl
  have HBOX := Lib.hid hbox
  have HX := Lib.hid hx
  obtain ⟨c, hc, hc2⟩ : ∃ c : Nat, x.kind % 11 = c ∧ (c = 9 ∨ c = 10) := ⟨_, rfl, by omega⟩
  have HPB := Lib.hid (show playB d m x = true from by unfold playB; rw [hc]; rcases hc2 with rfl | rfl <;> rfl)
  have HPD := Lib.hid (show playD d x = d from by unfold playD; rw [hc]; rcases hc2 with rfl | rfl <;> rfl)
  have HPR := Lib.hid (show playR m x = m from by unfold playR; rw [hc]; rcases hc2 with rfl | rfl <;> rfl)
  have hmm : Int.tmod (x.kind : Int) 11 = c := by rw [Int.tmod_eq_emod_of_nonneg (by omega)]; omega
  clear h hb1 hbox hk hx hc
  rcases hc2 with rfl | rfl
  · unfold opV opCs
    go_enter Try.func10, Try.ntmps10
    go_wp2_with fail
    go_ret
    rw [PlayP, HPB.out, HPD.out, HPR.out]
    exact ⟨rfl, _, _, Went.start HB1.out (Went.refl HDU.out)⟩
  · unfold opV opCs
    go_enter Try.func10, Try.ntmps10
    go_wp2_with fail
    go_ret
    rw [PlayP, HPB.out, HPD.out, HPR.out]
    exact ⟨rfl, _, _, Went.start HB1.out (Went.refl HDU.out)⟩
end Go.Proofs.Ytikbphafpmdpeaa

set_option linter.all false
namespace Go.Proofs.Ytikbphafpmdpeaa
open Go.RowKit

/-- A row that may be written to. -/
def Buf (W : World) (N : Nat) (A : Option Addr) (n : Nat) : Prop :=
  (A = none ∧ n = 0) ∨ ∃ g cur T fr, A = some ⟨g, 0, none⟩ ∧ N ≤ g ∧ W.heap[g]? = some (.cells cur T fr) ∧ Free fr cur.size ∧ n ≤ cur.size ∧ T ≠ 9
def bufG (A : Option Addr) : List Nat := (A.map fun a => a.block).toList
theorem Buf.lt {W : World} {N n : Nat} {A : Option Addr} (h : Buf W N A n) : ∀ g ∈ bufG A, N ≤ g ∧ g < W.heap.size := by
  intro g hg
  rcases h with ⟨rfl, -⟩ | ⟨g', cur, T, fr, rfl, h1, h2, -⟩
  · simp [bufG] at hg
  · simp [bufG] at hg
    subst hg
    exact ⟨h1, lt_of_block h2⟩
theorem Buf.not_str {W : World} {N n : Nat} {A : Option Addr} (h : Buf W N A n) : ∀ g ∈ bufG A, ∀ cur fr, W.heap[g]? ≠ some (.cells cur 9 fr) := by
  intro g hg cur fr he
  rcases h with ⟨rfl, -⟩ | ⟨g', cur', T, fr', rfl, h1, h2, -, -, h3⟩
  · simp [bufG] at hg
  · simp [bufG] at hg
    subst hg
    rw [h2] at he
    injection he with he
    injection he with _ he _
    exact h3 he
theorem Buf.fr {W W' : World} {F : List Nat} {N n : Nat} {A : Option Addr} (h : Buf W N A n) (hf : Fr F W W') (hF : ∀ g ∈ bufG A, g ∉ F) : Buf W' N A n := by
  rcases h with h | ⟨g, cur, T, fr, rfl, h1, h2, h3⟩
  · exact .inl h
  · exact .inr ⟨g, cur, T, fr, rfl, h1, hf.kept (hF g (by simp [bufG])) h2, h3⟩
theorem Buf.put {W : World} {N n i : Nat} {A : Option Addr} (h : Buf W N A n) (hi : i < n) (u : Value) : ∃ ad v0, A = some ad ∧ W.cell? (ad.add i) = some v0 ∧ W.frozen? (ad.add i) = false ∧ Buf (W.setCell (ad.add i) u) N A n ∧ Fr (bufG A) W (W.setCell (ad.add i) u) := by
  rcases h with ⟨-, h0⟩ | ⟨g, cur, T, fr, rfl, h1, h2, h3, h4, h5⟩
  · omega
  · have hic : i < cur.size := by omega
    have e : (⟨g, 0, none⟩ : Addr).add i = ⟨g, i, none⟩ := by rw [Go.WideShapes.add_plain, Nat.zero_add]
    refine ⟨⟨g, 0, none⟩, cur[i], rfl, ?_, ?_, ?_, ?_⟩
    · rw [e]; exact cell_of h2 (Array.getElem?_eq_getElem hic)
    · rw [e]
      have := h3 i hic
      simp only [World.frozen?, h2]
      simpa using this
    · rw [e]
      exact .inr ⟨g, _, T, fr, rfl, h1, setCell_heap u h2, by rw [Array.size_setIfInBounds]; exact h3, by rw [Array.size_setIfInBounds]; exact h4, h5⟩
    · rw [e]
      exact (Fr.refl _ W).put g i u (.inl (by simp [bufG]))
theorem Buf.of_row {W : World} {N g n c : Nat} {xs : List Value} (h : Row W N 5 (.slice (some ⟨g, 0, none⟩) n c) xs) (hn : xs.length = n) : Buf W N (some ⟨g, 0, none⟩) n := by
  rcases h with ⟨h, -⟩ | ⟨g', off, cap, cur, fr, hv, hg, hh, hfr, hnc, hm, hc, ht⟩
  · cases h
  · injection hv with h1 h2 h3
    injection h1 with h1
    injection h1 with h1 h4 _
    subst h1
    exact .inr ⟨g, cur, _, fr, rfl, hg, hh, hfr, by omega, by decide⟩
theorem Went.buf {w w1 w2 : World} {p q : Nat} {Fd Fm Fd1 Fm1 : List Nat} {d1 : DiskT} {m1 : RefT} {A : Option Addr} (h : Went w p q Fd Fm d1 m1 Fd1 Fm1 w1) (hf : Fr (bufG A) w1 w2) (hd : ∀ g ∈ bufG A, g ∉ Fd1) (hm : ∀ g ∈ bufG A, g ∉ Fm1) (hs : ∀ g ∈ bufG A, ∀ cur fr, w1.heap[g]? ≠ some (.cells cur 9 fr)) (hN : ∀ g ∈ bufG A, w.heap.size ≤ g) :
    Went w p q Fd Fm d1 m1 Fd1 Fm1 w2 :=
  ⟨⟨h.duo.dk.fr hf fun i hi hg => hd i hg hi, h.duo.rf.fr hf (fun i hi hg => hm i hg hi) hs, h.duo.apart⟩, h.fr.trans hf fun i hi hl => absurd (hN i hi) (by omega), h.nd, h.nm⟩
/-- What was read, as bytes. -/
theorem ReadV.bytes {w w' : World} {o : Option PageT} {v : Value} (h : ReadV w o v w') : ∃ A n c, v = .slice A n c ∧ (pgO o).length = n ∧ Cells w' A (bv (pgO o)) ∧ n ≤ 256 ∧ Buf w' w.heap.size A n := by
  cases o with
  | none =>
    obtain ⟨rfl, rfl⟩ := h
    exact ⟨none, 0, 0, rfl, rfl, Cells.nil _ _, by omega, .inl ⟨rfl, rfl⟩⟩
  | some q =>
    obtain ⟨g, rfl, h1, h2, -⟩ := h
    refine ⟨some ⟨g, 0, none⟩, 256, 256, rfl, q.len, fun _ => ⟨_, rfl, fun j u hj => ?_⟩, by omega, .inr ⟨g, pgC q, _, (0, 0), rfl, h2, h1, Free.none _, by rw [pgC_size]; exact Nat.le_refl _, by decide⟩⟩
    rw [Go.WideShapes.add_plain, Nat.zero_add]
    exact cell_of h1 (by show (pgC q)[j]? = some u; unfold pgC; simpa [pgO] using hj)
theorem RReadV.bytes {w w' : World} {o : Option PageT} {v : Value} (h : RReadV w o v w') : ∃ A n c, v = .slice A n c ∧ (pgO o).length = n ∧ Cells w' A (bv (pgO o)) ∧ n ≤ 256 := by
  obtain ⟨-, h⟩ := h
  cases o with
  | none =>
    have h : v = .slice none 0 0 := h
    subst h
    exact ⟨none, 0, 0, rfl, rfl, Cells.nil _ _, by omega⟩
  | some q =>
    obtain ⟨g, c, rfl, h1⟩ : ∃ g c, v = .slice (some ⟨g, 0, none⟩) 256 c ∧ Cells w' (some ⟨g, 0, none⟩) (bv q.b) := h
    exact ⟨_, 256, c, rfl, q.len, h1, by omega⟩
theorem bytes_cv (n : Nat) (b : UInt8) (w : World) (hn : n ≤ 100000) : Calls Try.prog 26 #[.int .i64 n, .int .u8 (b.toNat : Int)] w fun e w' => ∃ g, e = .returned (.slice (some ⟨g, 0, none⟩) n n) ∧
    (convert 23 9 (.slice (some ⟨g, 0, none⟩) n n)).run Try.prog w' = .ok (.string ⟨(List.replicate n b).toArray⟩) w' ∧ Below w.heap.size w w' := by
  refine (bytes_any n b w hn).mono ?_
  rintro e w' ⟨g, rfl, hr, hb⟩
  obtain ⟨A, c, hv, -, hcl⟩ := hr.shape
  rw [bv_length, List.length_replicate] at hv
  injection hv with hv1 hv2 hv3
  subst hv1
  subst hv3
  have h1 := conv_str hcl n 23 9 5 Try.underlying23 Try.underlying5 Try.underlying9
  rw [List.length_replicate] at h1
  exact ⟨g, rfl, h1, hb⟩
set_option maxRecDepth 100000 in
set_option maxHeartbeats 8000000 in
theorem plays5 {w : World} {p q : Nat} {Fd Fm : List Nat} {d : DiskT} {m : RefT} {x : OpT} (h : Duo w p q Fd Fm d m) (hd : d.steps ≤ 3999999999) (hm : m.count ≤ 3999999999) (hx : x.Ok) (hk : x.kind % 11 = 5) :
    Calls Try.prog 10 #[.pointer (some ⟨p, 0, none⟩), .pointer (some ⟨q, 0, none⟩), opV x] w (PlayP w p q Fd Fm d m x) := by
  have hb1 : Below w.heap.size w (w.alloc (.cells #[.int .u8 (x.kind : Int), .string x.name, .string x.dst, .int .i64 x.page, .int .u16 (x.long : Int), .int .u8 (x.fill.toNat : Int), .int .u64 (x.keep : Int)] 28)) := (Below.refl _ _).alloc (Nat.le_refl _) _
  have HB1 := Lib.hid hb1
  have HDU := Lib.hid (h.below hb1)
  have hbox := Go.heap_alloc_new w (.cells #[.int .u8 (x.kind : Int), .string x.name, .string x.dst, .int .i64 x.page, .int .u16 (x.long : Int), .int .u8 (x.fill.toNat : Int), .int .u64 (x.keep : Int)] 28)
  have HNB := Lib.hid (show w.heap.size ∉ Fd ++ Fm from fun hi => absurd (h.lt _ hi) (Nat.lt_irrefl _))
  have q0 : (w.alloc (.cells #[.int .u8 (x.kind : Int), .string x.name, .string x.dst, .int .i64 x.page, .int .u16 (x.long : Int), .int .u8 (x.fill.toNat : Int), .int .u64 (x.keep : Int)] 28)).cell? ⟨w.heap.size, 0, none⟩ = some (.int .u8 (x.kind : Int)) := cell_of (j := 0) hbox rfl
  have HBOX := Lib.hid hbox
  have HX := Lib.hid hx
  have HPB := Lib.hid (show playB d m x = (decide (pgO (readD d x.name x.page).2 = pgO (readR m x.name x.page).2) && ((readD d x.name x.page).1 == (readR m x.name x.page).1)) from by unfold playB; rw [hk] <;> rfl)
  have HPD := Lib.hid (show playD d x = d from by unfold playD; rw [hk] <;> rfl)
  have HPR := Lib.hid (show playR m x = m from by unfold playR; rw [hk] <;> rfl)
  have q1 : (w.alloc (.cells #[.int .u8 (x.kind : Int), .string x.name, .string x.dst, .int .i64 x.page, .int .u16 (x.long : Int), .int .u8 (x.fill.toNat : Int), .int .u64 (x.keep : Int)] 28)).cell? ⟨w.heap.size, 1, none⟩ = some (.string x.name) := cell_of (j := 1) hbox rfl
  have q3 : (w.alloc (.cells #[.int .u8 (x.kind : Int), .string x.name, .string x.dst, .int .i64 x.page, .int .u16 (x.long : Int), .int .u8 (x.fill.toNat : Int), .int .u64 (x.keep : Int)] 28)).cell? ⟨w.heap.size, 3, none⟩ = some (.int .i64 x.page) := cell_of (j := 3) hbox rfl
  have HCD := Lib.hid (fun W (hW : DkO W p Fd d) => hW.read x.name x.page)
  have HCM := Lib.hid (fun W (hW : RfO W q Fm m) => hW.read (Nat.le_trans hm (by decide)) x.name x.page)
  obtain ⟨⟨r1, o1⟩, hr1⟩ : ∃ r, readD d x.name x.page = r := ⟨_, rfl⟩
  obtain ⟨⟨r2, o2⟩, hr2⟩ : ∃ r, readR m x.name x.page = r := ⟨_, rfl⟩
  rw [hr1] at HCD HPB
  rw [hr2] at HCM HPB
  clear hr1 hr2
  have hmm : Int.tmod (x.kind : Int) 11 = 5 := by rw [Int.tmod_eq_emod_of_nonneg (by omega)]; omega
  clear h hb1 hbox hk hx
  unfold opV opCs
  go_enter Try.func10, Try.ntmps10
  go_wp2_with fail
  refine (HCD.out _ HDU.out.dk).mono ?_
  rintro e w2 ⟨v1, rfl, hV1⟩
  have hb2 := hV1.below
  obtain ⟨A1, n1, c1, rfl, hl1, hcl1, hn1, hbuf1⟩ := hV1.bytes
  have t1 := cell_below hb2 q1
  have t3 := cell_below hb2 q3
  have HCL1 := Lib.hid hcl1
  have HBUF1 := Lib.hid hbuf1
  have HL1 := Lib.hid hl1
  have HB2 := Lib.hid hb2
  clear hV1 hb2 hcl1 hbuf1 hl1 q1 q3
  go_wp2_with fail
  refine (HCM.out _ (HDU.out.rf.below HB2.out)).mono ?_
  rintro e w3 ⟨v2, rfl, hV2⟩
  have hb3 := hV2.1
  obtain ⟨A2, n2, c2, rfl, hl2, hcl2, hn2⟩ := hV2.bytes
  have hcv1 := conv_bytes (Cells.below HCL1.out hb3) n1 c1 HL1.out
  have hcv2 := conv_bytes hcl2 n2 c2 hl2
  have HBUF3 := Lib.hid (HBUF1.out.fr (F := []) (Fr.below hb3) fun _ _ => by simp)
  have HB3 := Lib.hid (HB2.out.trans (hb3.mono HB2.out.size))
  obtain ⟨s1, hs1⟩ : ∃ s1 : ByteArray, (⟨(pgO o1).toArray⟩ : ByteArray) = s1 := ⟨_, rfl⟩
  obtain ⟨s2, hs2⟩ : ∃ s2 : ByteArray, (⟨(pgO o2).toArray⟩ : ByteArray) = s2 := ⟨_, rfl⟩
  rw [hs1] at hcv1
  rw [hs2] at hcv2
  have hss : (pgO o1 = pgO o2) ↔ s1 = s2 := by
    rw [← hs1, ← hs2]
    constructor
    · intro h; rw [h]
    · intro h
      injection h with h
      simpa using congrArg Array.toList h
  have HFIN : ∀ (b : Bool) (wr : World), b = (decide (s1 = s2) && (r1 == r2)) → Fr (bufG A1) w3 wr → PlayP w p q Fd Fm d m x (.returned (.bool b)) wr := by
    rintro b wr rfl hfr
    rw [PlayP, HPB.out, HPD.out, HPR.out]
    refine ⟨by simp only [hss], _, _, Went.start HB1.out ((((Went.refl HDU.out).below HB3.out)).buf hfr ?_ ?_ HBUF3.out.not_str ?_)⟩
    · intro g hg hi
      have h1 := (HBUF3.out.lt g hg).1
      have h2 := HDU.out.dk.lt g hi
      omega
    · intro g hg hi
      have h1 := (HBUF3.out.lt g hg).1
      have h2 := HDU.out.rf.lt g hi
      omega
    · intro g hg
      exact (HBUF3.out.lt g hg).1
  have HFF := Lib.hid HFIN
  clear HFIN hss hs1 hs2 hV2 hb3 hcl2 hl2 t1 t3
  obtain ⟨bb, hbb⟩ : ∃ bb, (decide (s1 = s2) && (r1 == r2)) = bb := ⟨_, rfl⟩
  have HBB := Lib.hid hbb
  clear hbb
  by_cases e1 : s1 = s2
  · have he1 := tl_t e1
    have hbb2 : (r1 == r2) = bb := by rw [← HBB.out]; simp [e1]
    clear e1
    go_wp2_with fail
    go_loopw [16] (fun i wr => ∃ j : Nat, j ≤ n1 ∧ i = .int .i64 j ∧ Fr (bufG A1) w3 wr ∧ Buf wr (w.alloc (.cells #[.int .u8 (x.kind : Int), .string x.name, .string x.dst, .int .i64 x.page, .int .u16 (x.long : Int), .int .u8 (x.fill.toNat : Int), .int .u64 (x.keep : Int)] 28)).heap.size A1 n1) (fun i _ => n1 - (intOf i).toNat)
    case atStart => exact ⟨0, Nat.zero_le _, rfl, Fr.refl _ _, HBUF3.out⟩
    case round =>
      obtain ⟨j, hj, rfl, hfr, hbu⟩ := hrel
      have HFR := Lib.hid hfr
      have HBU := Lib.hid hbu
      clear hfr hbu
      by_cases hlt : j < n1
      · obtain ⟨ad, v0, rfl, z0, z1, hb4, hf4⟩ := HBU.out.put hlt (.int .u8 238)
        have hji : ((j : Nat) : Int) < n1 := by omega
        have HB4 := Lib.hid hb4
        have HF4 := Lib.hid hf4
        clear hb4 hf4
        go_wp2_with fail
        go_roundw
        case rel => exact ⟨j + 1, hlt, by go_num, HFR.out.and HF4.out, HB4.out⟩
        case measure => simp [intOf]; omega
      · have hji : ¬ ((j : Nat) : Int) < n1 := by omega
        go_wp2_with fail
        go_ret
        exact HFF.out _ _ (by rw [HBB.out]) HFR.out

  · have he1 := tl_f e1
    have hbb2 : bb = false := by rw [← HBB.out]; simp [e1]
    subst hbb2
    clear e1
    go_wp2_with fail
    go_loopw [16] (fun i wr => ∃ j : Nat, j ≤ n1 ∧ i = .int .i64 j ∧ Fr (bufG A1) w3 wr ∧ Buf wr (w.alloc (.cells #[.int .u8 (x.kind : Int), .string x.name, .string x.dst, .int .i64 x.page, .int .u16 (x.long : Int), .int .u8 (x.fill.toNat : Int), .int .u64 (x.keep : Int)] 28)).heap.size A1 n1) (fun i _ => n1 - (intOf i).toNat)
    case atStart => exact ⟨0, Nat.zero_le _, rfl, Fr.refl _ _, HBUF3.out⟩
    case round =>
      obtain ⟨j, hj, rfl, hfr, hbu⟩ := hrel
      have HFR := Lib.hid hfr
      have HBU := Lib.hid hbu
      clear hfr hbu
      by_cases hlt : j < n1
      · obtain ⟨ad, v0, rfl, z0, z1, hb4, hf4⟩ := HBU.out.put hlt (.int .u8 238)
        have hji : ((j : Nat) : Int) < n1 := by omega
        have HB4 := Lib.hid hb4
        have HF4 := Lib.hid hf4
        clear hb4 hf4
        go_wp2_with fail
        go_roundw
        case rel => exact ⟨j + 1, hlt, by go_num, HFR.out.and HF4.out, HB4.out⟩
        case measure => simp [intOf]; omega
      · have hji : ¬ ((j : Nat) : Int) < n1 := by omega
        go_wp2_with fail
        go_ret
        exact HFF.out _ _ (by rw [HBB.out]) HFR.out

set_option maxRecDepth 100000 in
set_option maxHeartbeats 8000000 in
theorem plays1 {w : World} {p q : Nat} {Fd Fm : List Nat} {d : DiskT} {m : RefT} {x : OpT} (h : Duo w p q Fd Fm d m) (hd : d.steps ≤ 3999999999) (hm : m.count ≤ 3999999999) (hx : x.Ok) (hk : x.kind % 11 = 1) :
    Calls Try.prog 10 #[.pointer (some ⟨p, 0, none⟩), .pointer (some ⟨q, 0, none⟩), opV x] w (PlayP w p q Fd Fm d m x) := by
  have hb1 : Below w.heap.size w (w.alloc (.cells #[.int .u8 (x.kind : Int), .string x.name, .string x.dst, .int .i64 x.page, .int .u16 (x.long : Int), .int .u8 (x.fill.toNat : Int), .int .u64 (x.keep : Int)] 28)) := (Below.refl _ _).alloc (Nat.le_refl _) _
  have HB1 := Lib.hid hb1
  have HDU := Lib.hid (h.below hb1)
  have hbox := Go.heap_alloc_new w (.cells #[.int .u8 (x.kind : Int), .string x.name, .string x.dst, .int .i64 x.page, .int .u16 (x.long : Int), .int .u8 (x.fill.toNat : Int), .int .u64 (x.keep : Int)] 28)
  have HNB := Lib.hid (show w.heap.size ∉ Fd ++ Fm from fun hi => absurd (h.lt _ hi) (Nat.lt_irrefl _))
  have q0 : (w.alloc (.cells #[.int .u8 (x.kind : Int), .string x.name, .string x.dst, .int .i64 x.page, .int .u16 (x.long : Int), .int .u8 (x.fill.toNat : Int), .int .u64 (x.keep : Int)] 28)).cell? ⟨w.heap.size, 0, none⟩ = some (.int .u8 (x.kind : Int)) := cell_of (j := 0) hbox rfl
  have HBOX := Lib.hid hbox
  have HX := Lib.hid hx
  have HPB := Lib.hid (show playB d m x = ((writeD d x.name x.page (bytesO x)).1 == (writeR m x.name x.page (bytesO x)).1) from by unfold playB; rw [hk] <;> rfl)
  have HPD := Lib.hid (show playD d x = (writeD d x.name x.page (bytesO x)).2 from by unfold playD; rw [hk] <;> rfl)
  have HPR := Lib.hid (show playR m x = (writeR m x.name x.page (bytesO x)).2 from by unfold playR; rw [hk] <;> rfl)
  have q1 : (w.alloc (.cells #[.int .u8 (x.kind : Int), .string x.name, .string x.dst, .int .i64 x.page, .int .u16 (x.long : Int), .int .u8 (x.fill.toNat : Int), .int .u64 (x.keep : Int)] 28)).cell? ⟨w.heap.size, 1, none⟩ = some (.string x.name) := cell_of (j := 1) hbox rfl
  have q3 : (w.alloc (.cells #[.int .u8 (x.kind : Int), .string x.name, .string x.dst, .int .i64 x.page, .int .u16 (x.long : Int), .int .u8 (x.fill.toNat : Int), .int .u64 (x.keep : Int)] 28)).cell? ⟨w.heap.size, 3, none⟩ = some (.int .i64 x.page) := cell_of (j := 3) hbox rfl
  have q4 : (w.alloc (.cells #[.int .u8 (x.kind : Int), .string x.name, .string x.dst, .int .i64 x.page, .int .u16 (x.long : Int), .int .u8 (x.fill.toNat : Int), .int .u64 (x.keep : Int)] 28)).cell? ⟨w.heap.size, 4, none⟩ = some (.int .u16 (x.long : Int)) := cell_of (j := 4) hbox rfl
  have q5 : (w.alloc (.cells #[.int .u8 (x.kind : Int), .string x.name, .string x.dst, .int .i64 x.page, .int .u16 (x.long : Int), .int .u8 (x.fill.toNat : Int), .int .u64 (x.keep : Int)] 28)).cell? ⟨w.heap.size, 5, none⟩ = some (.int .u8 (x.fill.toNat : Int)) := cell_of (j := 5) hbox rfl
  obtain ⟨n, hn⟩ : ∃ n, x.long % 300 = n := ⟨_, rfl⟩
  have hn300 : n < 300 := by omega
  have hmn : Int.tmod (x.long : Int) 300 = n := by rw [Int.tmod_eq_emod_of_nonneg (by omega)]; omega
  have hbo : bytesO x = List.replicate n x.fill := by unfold bytesO; rw [hn]
  rw [hbo] at HPB HPD HPR
  have HCD := Lib.hid (fun W (hW : DkO W p Fd d) A c (hA : Cells W A (bv (List.replicate n x.fill))) => hW.write hd x.name x.page (List.replicate n x.fill) A n c hA (List.length_replicate ..))
  have HCM := Lib.hid (fun W (hW : RfO W q Fm m) A c (hA : Cells W A (bv (List.replicate n x.fill))) hAF => hW.write hm x.name x.page (List.replicate n x.fill) A n c hA (List.length_replicate ..) hAF)
  obtain ⟨r1, hr1⟩ : ∃ r, writeD d x.name x.page (List.replicate n x.fill) = r := ⟨_, rfl⟩
  obtain ⟨r2, hr2⟩ : ∃ r, writeR m x.name x.page (List.replicate n x.fill) = r := ⟨_, rfl⟩
  rw [hr1] at HCD HPB HPD
  rw [hr2] at HCM HPB HPR
  obtain ⟨bs, hbs⟩ : ∃ bs : ByteArray, (⟨(List.replicate n x.fill).toArray⟩ : ByteArray) = bs := ⟨_, rfl⟩
  have HBS := Lib.hid hbs
  have hff := x.fill.toNat_lt
  clear hr1 hr2 hn hbo hbs
  have hmm : Int.tmod (x.kind : Int) 11 = 1 := by rw [Int.tmod_eq_emod_of_nonneg (by omega)]; omega
  clear h hb1 hbox hk hx
  unfold opV opCs
  go_enter Try.func10, Try.ntmps10
  go_wp2_with fail
  generalize (w.alloc (.cells #[.int .u8 (x.kind : Int), .string x.name, .string x.dst, .int .i64 x.page, .int .u16 (x.long : Int), .int .u8 (x.fill.toNat : Int), .int .u64 (x.keep : Int)] 28)) = w1 at *
  refine (bytes_any n x.fill _ (by omega)).mono ?_
  rintro e w2 ⟨g, rfl, hr, hb2⟩
  obtain ⟨A2, c2, hv2, -, hcl2⟩ := hr.shape
  rw [bv_length, List.length_replicate] at hv2
  injection hv2 with hv2a _ hv2c
  subst hv2a
  subst hv2c
  have hbuf2 := Buf.of_row hr (by rw [bv_length, List.length_replicate])
  have HBUF2 := Lib.hid hbuf2
  have HCL2 := Lib.hid hcl2
  have HB2 := Lib.hid hb2
  have HD2 := Lib.hid (HDU.out.below hb2)
  have t1 := cell_below hb2 q1
  have t3 := cell_below hb2 q3
  have HGD := Lib.hid (show g ∉ Fd from fun hi => by
    have h1 := HDU.out.dk.lt g hi
    have h2 := (hbuf2.lt g (by simp [bufG])).1
    omega)
  have HGM := Lib.hid (show g ∉ Fm from fun hi => by
    have h1 := HDU.out.rf.lt g hi
    have h2 := (hbuf2.lt g (by simp [bufG])).1
    omega)
  clear hr hb2 hcl2 hbuf2 q1 q3 q4
  go_wp2_with fail
  refine (HCD.out w2 HD2.out.dk _ n HCL2.out).mono ?_
  rintro e w3 ⟨rfl, Fd', hL⟩
  have hW := Went.disk HD2.out hL
  have t5 := cell_below HB2.out q5
  have hb3n : w.heap.size ∉ Fd := fun hi => HNB.out (List.mem_append_left _ hi)
  have u1 := hL.fr.cellKept hb3n t1
  have u3 := hL.fr.cellKept hb3n t3
  have u5 := hL.fr.cellKept hb3n t5
  have hcl3 : Cells w3 (some ⟨g, 0, none⟩) (bv (List.replicate n x.fill)) := fun hn => by
    obtain ⟨ad, e, hc⟩ := HCL2.out hn
    injection e with e
    subst e
    exact ⟨_, rfl, fun j u hj => hL.fr.cellKept (by
      have h1 : ((⟨g, 0, none⟩ : Addr).add j).block = g := by unfold Addr.add; split <;> rfl
      rw [h1]; exact HGD.out) (hc j u hj)⟩
  have hbuf3 := HBUF2.out.fr hL.fr (fun i hi => by simp [bufG] at hi; subst hi; exact HGD.out)
  have HGD' := Lib.hid (show g ∉ Fd' from fun hi => by
    rcases hL.new g hi with h1 | h1
    · exact HGD.out h1
    · exact absurd (HBUF2.out.lt g (by simp [bufG])).2 (by omega))
  have HW := Lib.hid (Went.start HB2.out hW)
  have HBUF3 := Lib.hid hbuf3
  have HCL3 := Lib.hid hcl3
  have HSC := Lib.hid (show ∀ V : World, Below w3.heap.size w3 V → V.cell? ⟨w.heap.size, 5, none⟩ = some (.int .u8 (x.fill.toNat : Int)) ∧ (convert 23 9 (.slice (some ⟨g, 0, none⟩) n n)).run Try.prog V = .ok (.string bs) V from fun V hV =>
    ⟨cell_below hV u5, by rw [← HBS.out]; exact conv_bytes (Cells.below HCL3.out hV) n n (List.length_replicate ..)⟩)
  clear hL hW t1 t3 t5 q5 hcl3 hbuf3 hb3n
  go_wp2_with fail
  refine wp_region_noPanic ?_
  refine wp_region_any (by kernel_rfl) (anyG_any (S := fun V : World => Below w3.heap.size w3 V) (n := 9) _ _ _ _ ?_)
  have hS : Below w3.heap.size w3 w3.drew := (Below.refl _ _).drew
  change AnyG _ _ _ _ _ _ 10 (Array.replicate 10 false) _ w3.drew
  refine anyG_take (i := 0) (oi := ⟨_, _, _, _, _, _⟩) (v := ?_) rfl rfl (by kernel_rfl) (by kernel_rfl) (by kernel_rfl) (by kernel_rfl) (by kernel_rfl) (fun _ _ _ h => h) (Or.inl ⟨by rfl, ?_⟩) hS ?_
  rotate_left
  · (intro w' hSw; skip; go_simp; (try with_reducible rfl))
  try simp only [Act.put, List.setIfInBounds_toArray, List.set_cons_zero, List.set_cons_succ]
  refine anyG_take (i := 1) (oi := ⟨_, _, _, _, _, _⟩) (v := ?_) rfl rfl (by kernel_rfl) (by kernel_rfl) (by kernel_rfl) (by kernel_rfl) (by kernel_rfl) (fun _ _ _ h => h) (Or.inl ⟨by rfl, ?_⟩) hS ?_
  rotate_left
  · (intro w' hSw; obtain ⟨s1, s2⟩ := HSC.out _ hSw; go_simp; (try with_reducible rfl))
  try simp only [Act.put, List.setIfInBounds_toArray, List.set_cons_zero, List.set_cons_succ]
  refine anyG_take (i := 2) (oi := ⟨_, _, _, _, _, _⟩) (v := ?_) rfl rfl (by kernel_rfl) (by kernel_rfl) (by kernel_rfl) (by kernel_rfl) (by kernel_rfl) (fun _ _ _ h => h) (Or.inl ⟨by rfl, ?_⟩) hS ?_
  rotate_left
  · (intro w' hSw; skip; go_simp; (try with_reducible rfl))
  try simp only [Act.put, List.setIfInBounds_toArray, List.set_cons_zero, List.set_cons_succ]
  refine anyG_take (i := 3) (oi := ⟨_, _, _, _, _, _⟩) (v := ?_) rfl rfl (by kernel_rfl) (by kernel_rfl) (by kernel_rfl) (by kernel_rfl) (by kernel_rfl) (fun _ _ _ h => h) (Or.inl ⟨by rfl, ?_⟩) hS ?_
  rotate_left
  · (intro w' hSw; skip; go_simp; (try with_reducible rfl))
  try simp only [Act.put, List.setIfInBounds_toArray, List.set_cons_zero, List.set_cons_succ]
  refine anyG_take (i := 4) (oi := ⟨_, _, _, _, _, _⟩) (v := ?_) rfl rfl (by kernel_rfl) (by kernel_rfl) (by kernel_rfl) (by kernel_rfl) (by kernel_rfl) (fun _ _ _ h => h) (Or.inl ⟨by rfl, ?_⟩) hS ?_
  rotate_left
  · (intro w' hSw; skip; go_simp; (try with_reducible rfl))
  try simp only [Act.put, List.setIfInBounds_toArray, List.set_cons_zero, List.set_cons_succ]
  refine anyG_take (i := 5) (oi := ⟨_, _, _, _, _, _⟩) (v := ?_) rfl rfl (by kernel_rfl) (by kernel_rfl) (by kernel_rfl) (by kernel_rfl) (by kernel_rfl) (fun _ _ _ h => h) (Or.inl ⟨by rfl, ?_⟩) hS ?_
  rotate_left
  · (intro w' hSw; obtain ⟨s1, s2⟩ := HSC.out _ hSw; go_simp; (try with_reducible rfl))
  try simp only [Act.put, List.setIfInBounds_toArray, List.set_cons_zero, List.set_cons_succ]
  refine anyG_all (rs := [6]) (by kernel_rfl) (by simp) (List.forall_mem_singleton.2 ?_)
  refine wpOp_step (o := ⟨_, _, _, _, _, _⟩) rfl (fun K' hK => ?_)
  have HK := Lib.hid hK
  clear hK
  rw [if_pos (by rfl)]
  go_simp
  refine Calls.mono (bytes_cv n x.fill _ (by omega)) ?_
  rintro e w4 ⟨g4, rfl, hcv, hb⟩
  rw [HBS.out] at hcv
  have hS4 : Below w3.heap.size w3 w4 := hS.trans (hb.mono hS.size)
  have HB4 := Lib.hid hS4
  clear hb hS
  have hS := hS4
  go_wp2_with fail
  refine HK.out _ _ ⟨fun _ => hS, ?_⟩
  clear HK
  try simp only [Act.put, List.setIfInBounds_toArray, List.set_cons_zero, List.set_cons_succ]
  refine anyG_all (rs := [7]) (by kernel_rfl) (by simp) (List.forall_mem_singleton.2 ?_)
  refine wpOp_step (o := ⟨_, _, _, _, _, _⟩) rfl (fun K' hK => ?_)
  have HK := Lib.hid hK
  clear hK
  rw [if_pos (by rfl)]
  go_simp
  refine HK.out _ _ ⟨fun _ => hS, ?_⟩
  clear HK
  try simp only [Act.put, List.setIfInBounds_toArray, List.set_cons_zero, List.set_cons_succ]
  refine anyG_all (rs := [8]) (by kernel_rfl) (by simp) (List.forall_mem_singleton.2 ?_)
  refine wpOp_step (o := ⟨_, _, _, _, _, _⟩) rfl (fun K' hK => ?_)
  have HK := Lib.hid hK
  clear hK
  rw [if_pos (by rfl)]
  go_simp
  refine HK.out _ _ ⟨fun _ => hS, ?_⟩
  clear HK
  try simp only [Act.put, List.setIfInBounds_toArray, List.set_cons_zero, List.set_cons_succ]
  refine anyG_all (rs := [9]) (by kernel_rfl) (by simp) (List.forall_mem_singleton.2 ?_)
  refine wpOp_step (o := ⟨_, _, _, _, _, _⟩) rfl (fun K' hK => ?_)
  have HK := Lib.hid hK
  clear hK
  rw [if_pos (by rfl)]
  go_simp
  refine HK.out _ _ ⟨fun h => absurd rfl h, anyG_done (by kernel_rfl) ?_⟩
  clear HK
  refine NoPanic.normal ?_
  clear hS hS4 HSC hcv
  have HW4 := Lib.hid (HW.out.below HB4.out)
  have HBUF4 := Lib.hid (HBUF3.out.fr (F := []) (Fr.below HB4.out) fun _ _ => by simp)
  have y1 := cell_below HB4.out u1
  have y3 := cell_below HB4.out u3
  have y5 := cell_below HB4.out u5
  clear u1 u3 u5
  go_wp2_with fail
  generalize hgad : (⟨g, 0, none⟩ : Addr) = ad0 at HBUF4 ⊢
  have HBG := Lib.hid (show bufG (some ad0) = [g] by rw [← hgad]; rfl)
  clear hgad
  go_loopw [10] (fun i wr => ∃ j : Nat, j ≤ n ∧ i = .int .i64 j ∧ Fr (bufG (some ad0)) w4 wr ∧ Buf wr w1.heap.size (some ad0) n) (fun i _ => n - (intOf i).toNat)
  case atStart => exact ⟨0, Nat.zero_le _, rfl, Fr.refl _ _, HBUF4.out⟩
  case round =>
    obtain ⟨j, hj, rfl, hfr, hbu⟩ := hrel
    have HFR := Lib.hid hfr
    have HBU := Lib.hid hbu
    clear hfr hbu
    by_cases hlt : j < n
    · obtain ⟨ad, v0, had, z0, z1, hb4, hf4⟩ := HBU.out.put hlt (.int .u8 238)
      injection had with had
      subst had
      have hji : ((j : Nat) : Int) < n := by omega
      have HB5 := Lib.hid hb4
      have HF5 := Lib.hid hf4
      clear hb4 hf4
      go_wp2_with fail
      go_roundw
      case rel => exact ⟨j + 1, hlt, by go_num, HFR.out.and HF5.out, HB5.out⟩
      case measure => simp [intOf]; omega
    · have hji : ¬ ((j : Nat) : Int) < n := by omega
      have hbxg : w.heap.size ∉ bufG (some ad0) := fun hi => by
        rw [HBG.out] at hi
        simp at hi
        have h1 := (HBUF2.out.lt g (by simp [bufG])).1
        have h2 : w.heap.size < w1.heap.size := lt_of_block HBOX.out
        omega
      have hbxm : w.heap.size ∉ Fm := fun hi => HNB.out (List.mem_append_right _ hi)
      have x1 := HFR.out.cellKept hbxg y1
      have x3 := HFR.out.cellKept hbxg y3
      have x5 := HFR.out.cellKept hbxg y5
      have hWr : Went w1 p q Fd Fm r1.2 m Fd' Fm wr := by
        refine HW4.out.buf HFR.out (fun i hi => ?_) (fun i hi => ?_) HBUF4.out.not_str fun i hi => ?_
        · rw [HBG.out] at hi; simp at hi; subst hi; exact HGD'.out
        · rw [HBG.out] at hi; simp at hi; subst hi; exact HGM.out
        · exact (HBUF4.out.lt i hi).1
      have HWR := Lib.hid hWr
      have HSD := Lib.hid (show ∀ V : World, Fr Fm wr V → V.cell? ⟨w.heap.size, 1, none⟩ = some (.string x.name) ∧ V.cell? ⟨w.heap.size, 3, none⟩ = some (.int .i64 x.page) ∧ V.cell? ⟨w.heap.size, 5, none⟩ = some (.int .u8 (x.fill.toNat : Int)) from fun V hV =>
        ⟨hV.cellKept hbxm x1, hV.cellKept hbxm x3, hV.cellKept hbxm x5⟩)
      clear hWr x1 x3 x5 y1 y3 y5 hbxg hbxm
      go_wp2_with fail
      refine wp_region_noPanic ?_
      refine wp_region_any (by kernel_rfl) (anyG_any (S := fun V : World => Fr Fm wr V) (n := 16) _ _ _ _ ?_)
      have hS : Fr Fm wr wr.drew := (Fr.refl _ _).drew
      change AnyG _ _ _ _ _ _ 17 (Array.replicate 17 false) _ wr.drew
      refine anyG_take (i := 0) (oi := ⟨_, _, _, _, _, _⟩) (v := ?_) rfl rfl (by kernel_rfl) (by kernel_rfl) (by kernel_rfl) (by kernel_rfl) (by kernel_rfl) (fun _ _ _ h => h) (Or.inl ⟨by rfl, ?_⟩) hS ?_
      rotate_left
      · (intro w' hSw; skip; go_simp; (try with_reducible rfl))
      try simp only [Act.put, List.setIfInBounds_toArray, List.set_cons_zero, List.set_cons_succ]
      refine anyG_take (i := 1) (oi := ⟨_, _, _, _, _, _⟩) (v := ?_) rfl rfl (by kernel_rfl) (by kernel_rfl) (by kernel_rfl) (by kernel_rfl) (by kernel_rfl) (fun _ _ _ h => h) (Or.inl ⟨by rfl, ?_⟩) hS ?_
      rotate_left
      · (intro w' hSw; skip; go_simp; (try with_reducible rfl))
      try simp only [Act.put, List.setIfInBounds_toArray, List.set_cons_zero, List.set_cons_succ]
      refine anyG_take (i := 2) (oi := ⟨_, _, _, _, _, _⟩) (v := ?_) rfl rfl (by kernel_rfl) (by kernel_rfl) (by kernel_rfl) (by kernel_rfl) (by kernel_rfl) (fun _ _ _ h => h) (Or.inl ⟨by rfl, ?_⟩) hS ?_
      rotate_left
      · (intro w' hSw; skip; go_simp; (try with_reducible rfl))
      try simp only [Act.put, List.setIfInBounds_toArray, List.set_cons_zero, List.set_cons_succ]
      refine anyG_take (i := 3) (oi := ⟨_, _, _, _, _, _⟩) (v := ?_) rfl rfl (by kernel_rfl) (by kernel_rfl) (by kernel_rfl) (by kernel_rfl) (by kernel_rfl) (fun _ _ _ h => h) (Or.inl ⟨by rfl, ?_⟩) hS ?_
      rotate_left
      · (intro w' hSw; skip; go_simp; (try with_reducible rfl))
      try simp only [Act.put, List.setIfInBounds_toArray, List.set_cons_zero, List.set_cons_succ]
      refine anyG_take (i := 4) (oi := ⟨_, _, _, _, _, _⟩) (v := ?_) rfl rfl (by kernel_rfl) (by kernel_rfl) (by kernel_rfl) (by kernel_rfl) (by kernel_rfl) (fun _ _ _ h => h) (Or.inl ⟨by rfl, ?_⟩) hS ?_
      rotate_left
      · (intro w' hSw; skip; go_simp; (try with_reducible rfl))
      try simp only [Act.put, List.setIfInBounds_toArray, List.set_cons_zero, List.set_cons_succ]
      refine anyG_take (i := 5) (oi := ⟨_, _, _, _, _, _⟩) (v := ?_) rfl rfl (by kernel_rfl) (by kernel_rfl) (by kernel_rfl) (by kernel_rfl) (by kernel_rfl) (fun _ _ _ h => h) (Or.inl ⟨by rfl, ?_⟩) hS ?_
      rotate_left
      · (intro w' hSw; obtain ⟨s1, s2, s3⟩ := HSD.out _ hSw; go_simp; (try with_reducible rfl))
      try simp only [Act.put, List.setIfInBounds_toArray, List.set_cons_zero, List.set_cons_succ]
      refine anyG_take (i := 6) (oi := ⟨_, _, _, _, _, _⟩) (v := ?_) rfl rfl (by kernel_rfl) (by kernel_rfl) (by kernel_rfl) (by kernel_rfl) (by kernel_rfl) (fun _ _ _ h => h) (Or.inl ⟨by rfl, ?_⟩) hS ?_
      rotate_left
      · (intro w' hSw; skip; go_simp; (try with_reducible rfl))
      try simp only [Act.put, List.setIfInBounds_toArray, List.set_cons_zero, List.set_cons_succ]
      refine anyG_take (i := 7) (oi := ⟨_, _, _, _, _, _⟩) (v := ?_) rfl rfl (by kernel_rfl) (by kernel_rfl) (by kernel_rfl) (by kernel_rfl) (by kernel_rfl) (fun _ _ _ h => h) (Or.inl ⟨by rfl, ?_⟩) hS ?_
      rotate_left
      · (intro w' hSw; obtain ⟨s1, s2, s3⟩ := HSD.out _ hSw; go_simp; (try with_reducible rfl))
      try simp only [Act.put, List.setIfInBounds_toArray, List.set_cons_zero, List.set_cons_succ]
      refine anyG_take (i := 8) (oi := ⟨_, _, _, _, _, _⟩) (v := ?_) rfl rfl (by kernel_rfl) (by kernel_rfl) (by kernel_rfl) (by kernel_rfl) (by kernel_rfl) (fun _ _ _ h => h) (Or.inl ⟨by rfl, ?_⟩) hS ?_
      rotate_left
      · (intro w' hSw; skip; go_simp; (try with_reducible rfl))
      try simp only [Act.put, List.setIfInBounds_toArray, List.set_cons_zero, List.set_cons_succ]
      refine anyG_take (i := 9) (oi := ⟨_, _, _, _, _, _⟩) (v := ?_) rfl rfl (by kernel_rfl) (by kernel_rfl) (by kernel_rfl) (by kernel_rfl) (by kernel_rfl) (fun _ _ _ h => h) (Or.inl ⟨by rfl, ?_⟩) hS ?_
      rotate_left
      · (intro w' hSw; skip; go_simp; (try with_reducible rfl))
      try simp only [Act.put, List.setIfInBounds_toArray, List.set_cons_zero, List.set_cons_succ]
      refine anyG_take (i := 10) (oi := ⟨_, _, _, _, _, _⟩) (v := ?_) rfl rfl (by kernel_rfl) (by kernel_rfl) (by kernel_rfl) (by kernel_rfl) (by kernel_rfl) (fun _ _ _ h => h) (Or.inl ⟨by rfl, ?_⟩) hS ?_
      rotate_left
      · (intro w' hSw; skip; go_simp; (try with_reducible rfl))
      try simp only [Act.put, List.setIfInBounds_toArray, List.set_cons_zero, List.set_cons_succ]
      refine anyG_take (i := 11) (oi := ⟨_, _, _, _, _, _⟩) (v := ?_) rfl rfl (by kernel_rfl) (by kernel_rfl) (by kernel_rfl) (by kernel_rfl) (by kernel_rfl) (fun _ _ _ h => h) (Or.inl ⟨by rfl, ?_⟩) hS ?_
      rotate_left
      · (intro w' hSw; obtain ⟨s1, s2, s3⟩ := HSD.out _ hSw; go_simp; (try with_reducible rfl))
      try simp only [Act.put, List.setIfInBounds_toArray, List.set_cons_zero, List.set_cons_succ]
      refine anyG_all (rs := [12]) (by kernel_rfl) (by simp) (List.forall_mem_singleton.2 ?_)
      refine wpOp_step (o := ⟨_, _, _, _, _, _⟩) rfl (fun K' hK => ?_)
      have HK := Lib.hid hK
      clear hK
      rw [if_pos (by rfl)]
      go_simp
      refine Calls.mono (bytes_any n x.fill _ (by omega)) ?_
      rintro e w6 ⟨g6, rfl, hr6, hb6⟩
      obtain ⟨A6, c6, hv6, -, hcl6⟩ := hr6.shape
      rw [bv_length, List.length_replicate] at hv6
      injection hv6 with hv6a _ hv6c
      subst hv6a
      subst hv6c
      have hb6' : Below wr.heap.size wr w6 := ⟨hb6.os, hb6.tape, hb6.output, hb6.size, hb6.block⟩
      have hS6 : Fr Fm wr w6 := hS.and ⟨hb6.os, hb6.tape, hb6.output, hb6.size, fun i hi _ => hb6.block i hi⟩
      have hg6 : g6 ∉ Fm := fun hi => by
        have h1 := HWR.out.duo.rf.lt g6 hi
        have h2 := ((Buf.of_row hr6 (by rw [bv_length, List.length_replicate])).lt g6 (by simp [bufG])).1
        have h3 : w6.heap.size ≥ wr.heap.size := hb6'.size
        have h4 : wr.drew.heap.size = wr.heap.size := rfl
        omega
      have HG6 := Lib.hid hg6
      have HCL6 := Lib.hid hcl6
      have HW6 := Lib.hid (HWR.out.below hb6')
      have HS6 := Lib.hid hS6
      clear hr6 hb6 hb6' hcl6 hg6 hS hS6
      have hS := HS6.out
      go_wp2_with fail
      refine HK.out _ _ ⟨fun _ => hS, ?_⟩
      clear HK
      try simp only [Act.put, List.setIfInBounds_toArray, List.set_cons_zero, List.set_cons_succ]
      refine anyG_all (rs := [13]) (by kernel_rfl) (by simp) (List.forall_mem_singleton.2 ?_)
      refine wpOp_step (o := ⟨_, _, _, _, _, _⟩) rfl (fun K' hK => ?_)
      have HK := Lib.hid hK
      clear hK
      rw [if_pos (by rfl)]
      go_simp
      refine Calls.mono (HCM.out w6 HW6.out.duo.rf _ n HCL6.out fun ad e => by injection e with e; subst e; exact HG6.out) ?_
      rintro e w7 ⟨rfl, Fm', hL⟩
      have hS7 : Fr Fm wr w7 := hS.and hL.fr
      have HW7 := Lib.hid (HW6.out.trans (Went.ref HW6.out.duo hL))
      have HS7 := Lib.hid hS7
      clear hL hS hS7
      have hS := HS7.out
      go_wp2_with fail
      refine HK.out _ _ ⟨fun _ => hS, ?_⟩
      clear HK
      try simp only [Act.put, List.setIfInBounds_toArray, List.set_cons_zero, List.set_cons_succ]
      refine anyG_all (rs := [14]) (by kernel_rfl) (by simp) (List.forall_mem_singleton.2 ?_)
      refine wpOp_step (o := ⟨_, _, _, _, _, _⟩) rfl (fun K' hK => ?_)
      have HK := Lib.hid hK
      clear hK
      rw [if_pos (by rfl)]
      go_simp
      refine HK.out _ _ ⟨fun _ => hS, ?_⟩
      clear HK
      try simp only [Act.put, List.setIfInBounds_toArray, List.set_cons_zero, List.set_cons_succ]
      refine anyG_all (rs := [15]) (by kernel_rfl) (by simp) (List.forall_mem_singleton.2 ?_)
      refine wpOp_step (o := ⟨_, _, _, _, _, _⟩) rfl (fun K' hK => ?_)
      have HK := Lib.hid hK
      clear hK
      rw [if_pos (by rfl)]
      go_simp
      refine HK.out _ _ ⟨fun _ => hS, ?_⟩
      clear HK
      try simp only [Act.put, List.setIfInBounds_toArray, List.set_cons_zero, List.set_cons_succ]
      refine anyG_all (rs := [16]) (by kernel_rfl) (by simp) (List.forall_mem_singleton.2 ?_)
      refine wpOp_step (o := ⟨_, _, _, _, _, _⟩) rfl (fun K' hK => ?_)
      have HK := Lib.hid hK
      clear hK
      rw [if_pos (by rfl)]
      go_simp
      refine HK.out _ _ ⟨fun h => absurd rfl h, anyG_done (by kernel_rfl) ?_⟩
      clear HK
      refine NoPanic.normal ?_
      clear hS HSD
      go_wp2_with fail
      go_ret
      rw [PlayP, HPB.out, HPD.out, HPR.out]
      exact ⟨rfl, _, _, Went.start HB1.out HW7.out⟩
theorem plays_any {w : World} {p q : Nat} {Fd Fm : List Nat} {d : DiskT} {m : RefT} {x : OpT} (h : Duo w p q Fd Fm d m) (hd : d.steps ≤ 3999999999) (hm : m.count ≤ 3999999999) (hx : x.Ok) :
    Calls Try.prog 10 #[.pointer (some ⟨p, 0, none⟩), .pointer (some ⟨q, 0, none⟩), opV x] w (PlayP w p q Fd Fm d m x) := by
  rcases (show x.kind % 11 = 0 ∨ x.kind % 11 = 1 ∨ x.kind % 11 = 2 ∨ x.kind % 11 = 3 ∨ x.kind % 11 = 4 ∨ x.kind % 11 = 5 ∨ x.kind % 11 = 6 ∨ x.kind % 11 = 7 ∨ x.kind % 11 = 8 ∨ 9 ≤ x.kind % 11 by omega) with e | e | e | e | e | e | e | e | e | e
  · exact plays0 h hd hm hx e
  · exact plays1 h hd hm hx e
  · exact plays2 h hd hm hx e
  · exact plays3 h hd hm hx e
  · exact plays4 h hd hm hx e
  · exact plays5 h hd hm hx e
  · exact plays6 h hd hm hx e
  · exact plays7 h hd hm hx e
  · exact plays8 h hd hm hx e
  · exact plays9 h hd hm hx e
end Go.Proofs.Ytikbphafpmdpeaa

set_option linter.all false
namespace Go.Proofs.Ytikbphafpmdpeaa
open Go.RowKit Go.ChangeShapes Go.WideShapes Go.Deep

section
variable {H : Type} {enc : TypeId × Value → H} {P : Program} {w : World} {base : Nat} {spare : Nat → Bool} {held : Bool}
theorem open_slice_fields {t e : TypeId} {fs : Array Field} {fuel : Nat} {cs : List Value} {x : DataW H × List MemPlace} (ht : P.underlying t = some (.slice e)) (he : P.underlying e = some (.struct fs))
    (hone : oneCellFields P fs = true) (hC : P.cellsOf e = fs.size) (h : DataW.trod enc P w base spare held fuel t cs = some x) :
    (cs = [.slice none 0 0] ∧ x = (.nil, [])) ∨
    ∃ (a : Addr) (len cap m : Nat) (D : Nat → DataW H) (Pl : Nat → List MemPlace), cs = [.slice (some a) len cap] ∧ base ≤ a.block ∧ len ≤ cap ∧ cap ≤ maxLen ∧ m = (if spare a.block then cap else len) ∧
      x = (.slice ((List.range len).map D) ((List.range (m - len)).map fun j => D (len + j)), MemPlace.row a (m * fs.size) ++ (List.range m).flatMap Pl) ∧
      ∀ i, i < m → ∃ (ys : List (DataW H × List MemPlace)) (n : Nat), D i = .agg (ys.map (·.1)) ∧ Pl i = ys.flatMap (·.2) ∧ ys.length = fs.size ∧
        ∀ (j : Nat) (f : Field), fs[j]? = some f → ∃ (v : Value) (y : DataW H × List MemPlace), w.cell? (a.add (i * fs.size + j)) = some v ∧ ys[j]? = some y ∧ DataW.trod enc P w base spare held n f.type [v] = some y := by
  rcases open_slice ht h with h0 | ⟨a, len, cap, m, n, D, Pl, hcs, hb, hl, hm, hmm, hx, hi⟩
  · exact .inl h0
  · refine .inr ⟨a, len, cap, m, D, Pl, hcs, hb, hl, hm, hmm, by rw [hC] at hx; exact hx, fun i him => ?_⟩
    obtain ⟨cs', hc, ht'⟩ := hi i him
    rw [hC] at hc
    obtain ⟨ys, n', hn', hy, hlen, hyl, hf⟩ := DataW.trod_struct he ht'
    obtain ⟨_, hcl, hat⟩ := World.cells?_some hc
    simp only [Prod.mk.injEq] at hy
    refine ⟨ys, n', hy.1, hy.2, hyl, fun j f hj => ?_⟩
    obtain ⟨ho, hk⟩ := hone_of hone j f hj
    have hjl : j < fs.size := (Array.getElem?_eq_some_iff.1 hj).1
    have hcell := hat j hjl
    have hv : cs'[j]? = some (cs'[j]'(by omega)) := List.getElem?_eq_getElem (by omega)
    have h1 := hf j f hj
    rw [ho, hk] at h1
    have hone' : (cs'.drop j).take 1 = [cs'[j]'(by omega)] := by
      rw [List.drop_eq_getElem_cons (by omega)]
      rfl
    rw [hone'] at h1
    have hys : ys[j]? = some (ys[j]'(by omega)) := List.getElem?_eq_getElem (by omega)
    refine ⟨_, _, ?_, hys, h1.trans hys⟩
    rw [← Go.Deep.add_add, hcell, hv]
end
theorem list_of {α : Type} {n : Nat} {P : Nat → α → Prop} (h : ∀ i, i < n → ∃ x, P i x) : ∃ l : List α, l.length = n ∧ ∀ i (hi : i < l.length), P i l[i] := by
  induction n with
  | zero => exact ⟨[], rfl, fun i hi => absurd hi (by simp)⟩
  | succ n ih =>
    obtain ⟨l, hl, hp⟩ := ih fun i hi => h i (by omega)
    obtain ⟨x, hx⟩ := h n (by omega)
    refine ⟨l ++ [x], by simp [hl], fun i hi => ?_⟩
    by_cases e : i < l.length
    · rw [List.getElem_append_left e]; exact hp i e
    · have : i = n := by simp at hi; omega
      subst this
      rw [List.getElem_append_right (by omega)]
      simp [hl]; exact hx
section
variable {H : Type} {P : Program} {B : Nat}
theorem weightsAll_le {e : TypeId} : ∀ {l : List (DataW H)}, (∀ n ∈ DataW.weightsAll P e l, n ≤ B) → ∀ d ∈ l, ∀ n ∈ d.weights P e, n ≤ B
  | [], _, d, hd => by cases hd
  | y :: r, h, d, hd => by
    intro n hn
    rcases List.mem_cons.1 hd with rfl | hd
    · exact h n (by unfold DataW.weightsAll; exact List.mem_append_left _ hn)
    · exact weightsAll_le (l := r) (fun m hm => h m (by unfold DataW.weightsAll; exact List.mem_append_right _ hm)) d hd n hn
theorem weightsEach_le : ∀ {ts : List TypeId} {l : List (DataW H)}, (∀ n ∈ DataW.weightsEach P ts l, n ≤ B) → ∀ (j : Nat) (t : TypeId) (d : DataW H), ts[j]? = some t → l[j]? = some d → ∀ n ∈ d.weights P t, n ≤ B
  | [], _, _, j, t, d, ht, _ => by simp at ht
  | _ :: _, [], _, j, t, d, _, hd => by simp at hd
  | u :: ts, y :: r, h, 0, t, d, ht, hd => by
    intro n hn
    have e1 : u = t := by simpa using ht
    have e2 : y = d := by simpa using hd
    subst e1; subst e2
    exact h n (by unfold DataW.weightsEach; exact List.mem_append_left _ hn)
  | u :: ts, y :: r, h, j + 1, t, d, ht, hd => weightsEach_le (ts := ts) (l := r) (fun m hm => h m (by unfold DataW.weightsEach; exact List.mem_append_right _ hm)) j t d (by simpa using ht) (by simpa using hd)
theorem weight_string {t : TypeId} {s : ByteArray} (h : ∀ n ∈ (DataW.lit (.string s.data.toList) : DataW H).weights P t, n ≤ B) : s.size ≤ B := by
  have := h s.data.toList.length (by simp [DataW.weights])
  simpa using this
theorem weight_slice {t e : TypeId} {k : Nat} {elems spare : List (DataW H)} (ht : P.underlying t = some (.slice e)) (hk : P.bytesOf e = k) (h : ∀ n ∈ (DataW.slice elems spare).weights P t, n ≤ B) :
    (elems.length + spare.length) * k ≤ B ∧ ∀ d ∈ elems, ∀ n ∈ d.weights P e, n ≤ B := by
  unfold DataW.weights at h
  rw [ht] at h
  simp only at h
  rw [hk] at h
  exact ⟨h _ (List.mem_cons_self ..), weightsAll_le fun n hn => h n (List.mem_cons_of_mem _ (List.mem_append_left _ hn))⟩
theorem weight_agg {t : TypeId} {fs : Array Field} {parts : List (DataW H)} (ht : P.underlying t = some (.struct fs)) (h : ∀ n ∈ (DataW.agg parts).weights P t, n ≤ B) (j : Nat) (f : Field) (d : DataW H) (hf : fs[j]? = some f) (hd : parts[j]? = some d) :
    ∀ n ∈ d.weights P f.type, n ≤ B := by
  unfold DataW.weights at h
  rw [ht] at h
  exact weightsEach_le h j f.type d (by simp [hf]) hd
end
/-- Calls that came in. -/
def OpAt (w : World) (ad : Addr) (i : Nat) (x : OpT) : Prop :=
  w.cell? (ad.add (i * 7)) = some (.int .u8 (x.kind : Int)) ∧ w.cell? (ad.add (i * 7 + 1)) = some (.string x.name) ∧ w.cell? (ad.add (i * 7 + 2)) = some (.string x.dst) ∧ w.cell? (ad.add (i * 7 + 3)) = some (.int .i64 x.page) ∧
    w.cell? (ad.add (i * 7 + 4)) = some (.int .u16 (x.long : Int)) ∧ w.cell? (ad.add (i * 7 + 5)) = some (.int .u8 (x.fill.toNat : Int)) ∧ w.cell? (ad.add (i * 7 + 6)) = some (.int .u64 (x.keep : Int))
def OpsIn (w : World) (A : Option Addr) (l : List OpT) : Prop := ∀ i (hi : i < l.length), ∃ ad, A = some ad ∧ OpAt w ad i l[i]
theorem OpAt.fr {F : List Nat} {w w' : World} {ad : Addr} {i : Nat} {x : OpT} (h : OpAt w ad i x) (hf : Fr F w w') (hF : ad.block ∉ F) : OpAt w' ad i x := by
  have hb : ∀ j, (ad.add j).block = ad.block := fun j => by unfold Addr.add; split <;> rfl
  have hk : ∀ j v, w.cell? (ad.add j) = some v → w'.cell? (ad.add j) = some v := fun j v hv => hf.cellKept (by rw [hb]; exact hF) hv
  obtain ⟨h0, h1, h2, h3, h4, h5, h6⟩ := h
  exact ⟨hk _ _ h0, hk _ _ h1, hk _ _ h2, hk _ _ h3, hk _ _ h4, hk _ _ h5, hk _ _ h6⟩
theorem OpsIn.fr {F : List Nat} {w w' : World} {A : Option Addr} {l : List OpT} (h : OpsIn w A l) (hf : Fr F w w') (hF : ∀ ad, A = some ad → ad.block ∉ F) : OpsIn w' A l := fun i hi => by
  obtain ⟨ad, e, h1⟩ := h i hi
  exact ⟨ad, e, h1.fr hf (hF ad e)⟩
theorem OpsIn.below {w w' : World} {A : Option Addr} {l : List OpT} (h : OpsIn w A l) (hb : Below w.heap.size w w') : OpsIn w' A l := h.fr (Fr.below (F := []) hb) fun _ _ => by simp
section
variable {H : Type} {enc : TypeId × Value → H} {W : World} {base : Nat}
set_option maxRecDepth 100000 in
theorem open_ops {v : Value} {d : DataW H} {p : List MemPlace} (hval : Value.okWide Try.prog W .any base 22 v) (h : DataW.Trod enc Try.prog W 0 (fun _ => true) true 22 v d p) (hB : ∀ n ∈ d.weights Try.prog 22, n ≤ reachBytes) :
    ∃ A l c, v = .slice A l.length c ∧ OpsIn W A l ∧ l.length ≤ reachBytes ∧ ∀ x ∈ l, OpT.Ok x := by
  obtain ⟨A, len, cap, rfl⟩ := okWide_slice Try.underlying22 hval
  obtain ⟨fuel, hf⟩ := h
  rcases open_slice_fields Try.underlying22 Try.underlying28 (by kernel_rfl) (by kernel_rfl) hf with ⟨hcs, -⟩ | ⟨a, len', cap', m, D, Pl, hcs, -, hl, hm, hmm, hx, hi⟩
  · have hcs' : [Value.slice A len cap] = [.slice none 0 0] := hcs
    simp only [List.cons.injEq, Value.slice.injEq, and_true] at hcs'
    obtain ⟨rfl, rfl, rfl⟩ := hcs'
    exact ⟨none, [], 0, rfl, (fun i hi => absurd hi (by simp)), Nat.zero_le _, fun y hy => by cases hy⟩
  · have hcs' : [Value.slice A len cap] = [.slice (some a) len' cap'] := hcs
    simp only [List.cons.injEq, Value.slice.injEq, and_true] at hcs'
    obtain ⟨rfl, rfl, rfl⟩ := hcs'
    simp only [if_true] at hmm
    subst hmm
    injection hx with hx1 hx2
    subst hx1
    obtain ⟨hw, hwe⟩ := weight_slice Try.underlying22 (show Try.prog.bytesOf 28 = 64 by kernel_rfl) hB
    have hex : ∀ i, i < len → ∃ y : OpT, OpAt W a i y ∧ OpT.Ok y := by
      intro i him
      obtain ⟨ys, n, hD, -, -, hf⟩ := hi i (by omega)
      obtain ⟨v0, y0, hc0, -, ht0⟩ := hf 0 _ rfl
      obtain ⟨v1, y1, hc1, g1, ht1⟩ := hf 1 _ rfl
      obtain ⟨v2, y2, hc2, g2, ht2⟩ := hf 2 _ rfl
      obtain ⟨v3, y3, hc3, g3, ht3⟩ := hf 3 _ rfl
      obtain ⟨v4, y4, hc4, -, ht4⟩ := hf 4 _ rfl
      obtain ⟨v5, y5, hc5, -, ht5⟩ := hf 5 _ rfl
      obtain ⟨v6, y6, hc6, -, ht6⟩ := hf 6 _ rfl
      obtain ⟨n0, e0, -, z0⟩ := DataW.trod_int Try.underlying5 ht0
      obtain ⟨s1, e1, rfl, -⟩ := DataW.trod_string Try.underlying9 ht1
      obtain ⟨s2, e2, rfl, -⟩ := DataW.trod_string Try.underlying9 ht2
      obtain ⟨n3, e3, -, z3⟩ := DataW.trod_int Try.underlying3 ht3
      obtain ⟨n4, e4, -, z4⟩ := DataW.trod_int Try.underlying26 ht4
      obtain ⟨n5, e5, -, z5⟩ := DataW.trod_int Try.underlying5 ht5
      obtain ⟨n6, e6, -, z6⟩ := DataW.trod_int Try.underlying24 ht6
      simp only [List.cons.injEq, and_true] at e0 e1 e2 e3 e4 e5 e6
      subst e0; subst e1; subst e2; subst e3; subst e4; subst e5; subst e6
      have b0 := bounds_u8 z0
      have b3 := bounds_i64 z3
      have b4 := bounds_u16 z4
      have b5 := bounds_u8 z5
      have b6 := bounds_u64 z6
      obtain ⟨k0, rfl⟩ : ∃ k : Nat, n0 = k := ⟨n0.toNat, by omega⟩
      obtain ⟨k4, rfl⟩ : ∃ k : Nat, n4 = k := ⟨n4.toNat, by omega⟩
      obtain ⟨k6, rfl⟩ : ∃ k : Nat, n6 = k := ⟨n6.toNat, by omega⟩
      have h5 : ((UInt8.ofNat n5.toNat).toNat : Int) = n5 := by rw [UInt8.toNat_ofNat']; omega
      refine ⟨⟨k0, s1, s2, n3, k4, UInt8.ofNat n5.toNat, k6⟩, ⟨hc0, hc1, hc2, hc3, hc4, ?_, hc6⟩, ⟨by show k0 < 256; omega, ⟨b3.1, by show n3 < _; omega⟩, by show k4 < 65536; omega, by show k6 < 18446744073709551616; omega⟩⟩
      rw [h5]; exact hc5
    obtain ⟨l, rfl, hp⟩ := list_of hex
    refine ⟨some a, l, _, rfl, fun i hi => ⟨a, rfl, (hp i hi).1⟩, by simp at hw; omega, fun y hy => ?_⟩
    obtain ⟨i, hi, rfl⟩ := List.getElem_of_mem hy
    exact (hp i hi).2
end
end Go.Proofs.Ytikbphafpmdpeaa

set_option linter.all false
namespace Go.Proofs.Ytikbphafpmdpeaa
open Go.RowKit

/-- Both disks, behind calls, in a later world. -/
def Gone (W : World) (p q : Nat) (Fd0 Fm0 : List Nat) (d : DiskT) (m : RefT) (w : World) : Prop := ∃ Fd Fm, Went W p q Fd0 Fm0 d m Fd Fm w
section
variable {W w w' : World} {p q : Nat} {Fd0 Fm0 : List Nat} {d : DiskT} {m : RefT}
theorem Gone.fr (h : Gone W p q Fd0 Fm0 d m w) : Fr (Fd0 ++ Fm0) W w := by obtain ⟨_, _, h⟩ := h; exact h.fr
theorem Gone.below (h : Gone W p q Fd0 Fm0 d m w) (hb : Below w.heap.size w w') : Gone W p q Fd0 Fm0 d m w' := by
  obtain ⟨Fd, Fm, h⟩ := h
  exact ⟨Fd, Fm, h.below hb⟩
theorem Gone.inv (h : Gone W p q Fd0 Fm0 d m w) : Inv d := by obtain ⟨_, _, h⟩ := h; exact h.duo.dk.inv
theorem Gone.disk {r : DiskT} {Fd Fm Fd' : List Nat} (h : Went W p q Fd0 Fm0 d m Fd Fm w) (hl : LeftO w p Fd r Fd' w') : Gone W p q Fd0 Fm0 r m w' := ⟨_, _, h.trans (Went.disk h.duo hl)⟩
theorem Gone.plays (h : Gone W p q Fd0 Fm0 d m w) (hd : d.steps ≤ 3999999999) (hm : m.count ≤ 3999999999) {x : OpT} (hx : x.Ok) :
    Calls Try.prog 10 #[.pointer (some ⟨p, 0, none⟩), .pointer (some ⟨q, 0, none⟩), opV x] w fun e w' => e = .returned (.bool (playB d m x)) ∧ Gone W p q Fd0 Fm0 (playD d x) (playR m x) w' := by
  obtain ⟨Fd, Fm, h⟩ := h
  refine (plays_any h.duo hd hm hx).mono ?_
  rintro e w' ⟨rfl, Fd', Fm', h'⟩
  exact ⟨rfl, _, _, h.trans h'⟩
theorem Gone.create (h : Gone W p q Fd0 Fm0 d m w) (hd : d.steps ≤ 3999999999) (name : ByteArray) : Calls Try.prog 13 #[.pointer (some ⟨p, 0, none⟩), .string name] w fun e w' => e = .returned (.int .i64 (createD d name).1) ∧ Gone W p q Fd0 Fm0 (createD d name).2 m w' := by
  obtain ⟨Fd, Fm, h⟩ := h
  refine (h.duo.dk.create hd name).mono ?_
  rintro e w' ⟨rfl, Fd', hl⟩
  exact ⟨rfl, Gone.disk h hl⟩
theorem Gone.sync (h : Gone W p q Fd0 Fm0 d m w) (hd : d.steps ≤ 3999999999) (name : ByteArray) : Calls Try.prog 16 #[.pointer (some ⟨p, 0, none⟩), .string name] w fun e w' => e = .returned (.int .i64 (syncD d name).1) ∧ Gone W p q Fd0 Fm0 (syncD d name).2 m w' := by
  obtain ⟨Fd, Fm, h⟩ := h
  refine (h.duo.dk.sync hd name).mono ?_
  rintro e w' ⟨rfl, Fd', hl⟩
  exact ⟨rfl, Gone.disk h hl⟩
theorem Gone.write (h : Gone W p q Fd0 Fm0 d m w) (hd : d.steps ≤ 3999999999) (name : ByteArray) (at_ : Int) (b : List UInt8) (A : Option Addr) (nb c : Nat) (hA : Cells w A (bv b)) (hnb : b.length = nb) : Calls Try.prog 14 #[.pointer (some ⟨p, 0, none⟩), .string name, .int .i64 at_, .slice A nb c] w fun e w' => e = .returned (.int .i64 (writeD d name at_ b).1) ∧ Gone W p q Fd0 Fm0 (writeD d name at_ b).2 m w' := by
  obtain ⟨Fd, Fm, h⟩ := h
  refine (h.duo.dk.write hd name at_ b A nb c hA hnb).mono ?_
  rintro e w' ⟨rfl, Fd', hl⟩
  exact ⟨rfl, Gone.disk h hl⟩
theorem Gone.fail (h : Gone W p q Fd0 Fm0 d m w) {n : Int} {k : Nat} (hn : n < 9223372036854775808) (hk : k < 18446744073709551616) : Calls Try.prog 12 #[.pointer (some ⟨p, 0, none⟩), .int .i64 n, .int .u64 k] w fun e w' => e = .returned (.tuple #[]) ∧ Gone W p q Fd0 Fm0 (failD d n k) m w' := by
  obtain ⟨Fd, Fm, h⟩ := h
  refine (h.duo.dk.fail hn hk).mono ?_
  rintro e w' ⟨rfl, Fd', hl⟩
  exact ⟨rfl, Gone.disk h hl⟩
theorem Gone.on (h : Gone W p q Fd0 Fm0 d m w) (hd : d.steps ≤ 4000000000) : Calls Try.prog 11 #[.pointer (some ⟨p, 0, none⟩)] w fun e w' => e = .returned (.tuple #[]) ∧ Gone W p q Fd0 Fm0 (onD d) m w' := by
  obtain ⟨Fd, Fm, h⟩ := h
  refine (h.duo.dk.on hd).mono ?_
  rintro e w' ⟨rfl, Fd', hl⟩
  exact ⟨rfl, Gone.disk h hl⟩
theorem Gone.len (h : Gone W p q Fd0 Fm0 d m w) (name : ByteArray) : Calls Try.prog 18 #[.pointer (some ⟨p, 0, none⟩), .string name] w fun e w' => e = .returned (.tuple #[.int .i64 (lenD d name).2, .int .i64 (lenD d name).1]) ∧ w = w' := by
  obtain ⟨Fd, Fm, h⟩ := h
  exact h.duo.dk.len name
theorem Gone.off (h : Gone W p q Fd0 Fm0 d m w) : Calls Try.prog 17 #[.pointer (some ⟨p, 0, none⟩)] w fun e w' => e = .returned (.bool d.off) ∧ w = w' := by
  obtain ⟨Fd, Fm, h⟩ := h
  exact h.duo.dk.off
theorem Gone.read (h : Gone W p q Fd0 Fm0 d m w) (name : ByteArray) (at_ : Int) : Calls Try.prog 15 #[.pointer (some ⟨p, 0, none⟩), .string name, .int .i64 at_] w fun e w' => ∃ A n c, e = .returned (.tuple #[.slice A n c, .int .i64 (readD d name at_).1]) ∧ (pgO (readD d name at_).2).length = n ∧ Cells w' A (bv (pgO (readD d name at_).2)) ∧ n ≤ 256 ∧ Below w.heap.size w w' ∧ Gone W p q Fd0 Fm0 d m w' := by
  have h0 := h
  obtain ⟨Fd, Fm, h⟩ := h
  refine (h.duo.dk.read name at_).mono ?_
  rintro e w' ⟨v, rfl, hv⟩
  obtain ⟨A, n, c, rfl, h1, h2, h3, -⟩ := hv.bytes
  exact ⟨A, n, c, rfl, h1, h2, h3, hv.below, h0.below hv.below⟩
end
theorem playD_steps (d : DiskT) (x : OpT) : (playD d x).steps ≤ d.steps + 1 := by
  unfold playD
  split
  · exact create_steps d _
  · exact write_steps d _ _ _
  · exact sync_steps d _
  · exact rename_steps d _ _
  · exact remove_steps d _
  · rw [fail_steps]; omega
  · rw [on_steps]; omega
  · omega
theorem stepR_le (m : RefT) : (stepR m).2.count ≤ m.count + 1 := by rw [stepR_count]; split <;> omega
theorem stepsR_count {m : RefT} {f : RefT → RefT} (hf : (f (stepR m).2).count = (stepR m).2.count) : (stepsR m f).2.count ≤ m.count + 1 := by
  unfold stepsR
  split
  · rw [hf]; exact stepR_le m
  · exact stepR_le m
theorem dropR_count (m : RefT) (i : Nat) : (dropR m i).count = m.count := by unfold dropR; split <;> rfl
theorem playR_count (m : RefT) (x : OpT) : (playR m x).count ≤ m.count + 1 := by
  unfold playR
  split
  · unfold createR
    split
    · exact Nat.le_succ _
    · split
      · exact Nat.le_succ _
      · split
        · exact Nat.le_succ _
        · split
          · exact Nat.le_succ _
          · exact stepsR_count rfl
  · unfold writeR
    split
    · exact Nat.le_succ _
    · split
      · exact Nat.le_succ _
      · split
        · exact Nat.le_succ _
        · split
          · exact Nat.le_succ _
          · split
            · exact Nat.le_succ _
            · split
              · exact Nat.le_succ _
              · exact stepsR_count rfl
  · unfold syncR
    split
    · exact Nat.le_succ _
    · split
      · exact Nat.le_succ _
      · split
        · exact Nat.le_succ _
        · exact stepsR_count (by show (dropR _ _).count = _; rw [dropR_count])
  · unfold renameR
    split
    · exact Nat.le_succ _
    · split
      · exact Nat.le_succ _
      · split
        · exact Nat.le_succ _
        · refine stepsR_count ?_
          split
          · rfl
          · show (dropN _ _).count = _
            unfold dropN
            split
            · rfl
            · exact dropR_count _ _
  · unfold removeR
    split
    · exact Nat.le_succ _
    · split
      · exact Nat.le_succ _
      · exact stepsR_count (dropR_count _ _)
  · unfold failR
    split
    · exact Nat.le_succ _
    · exact Nat.le_succ _
  · unfold onR
    split
    · exact Nat.le_succ _
    · exact Nat.le_succ _
  · exact Nat.le_succ _
/-- A row of calls. -/
def playsD (d : DiskT) (l : List OpT) : DiskT := l.foldl playD d
def playsR (m : RefT) (l : List OpT) : RefT := l.foldl playR m
theorem playsD_snoc (d : DiskT) (l : List OpT) {j : Nat} (hj : j < l.length) : playsD d (l.take (j + 1)) = playD (playsD d (l.take j)) l[j] := by
  unfold playsD
  rw [List.take_add_one, List.getElem?_eq_getElem hj, List.foldl_append]
  rfl
theorem playsR_snoc (m : RefT) (l : List OpT) {j : Nat} (hj : j < l.length) : playsR m (l.take (j + 1)) = playR (playsR m (l.take j)) l[j] := by
  unfold playsR
  rw [List.take_add_one, List.getElem?_eq_getElem hj, List.foldl_append]
  rfl
theorem playsD_steps (l : List OpT) : ∀ d, (playsD d l).steps ≤ d.steps + l.length := by
  induction l with
  | nil => intro d; exact Nat.le_refl _
  | cons x l ih =>
    intro d
    have h1 := ih (playD d x)
    have h2 := playD_steps d x
    show (playsD (playD d x) l).steps ≤ _
    rw [List.length_cons]
    omega
theorem playsR_count (l : List OpT) : ∀ m, (playsR m l).count ≤ m.count + l.length := by
  induction l with
  | nil => intro m; exact Nat.le_refl _
  | cons x l ih =>
    intro m
    have h1 := ih (playR m x)
    have h2 := playR_count m x
    show (playsR (playR m x) l).count ≤ _
    rw [List.length_cons]
    omega

/-! A file apart: no call has its name -/
/-- The file is settled, and nothing is open. -/
def Safe (d : DiskT) (name : ByteArray) (P : List PageT) : Prop := mget d.files name = some ⟨P, P, []⟩
section
variable {d : DiskT} {name : ByteArray} {P : List PageT}
theorem safe_step (h : Safe d name P) : Safe (stepD d).2 name P := by
  unfold Safe at *
  unfold stepD
  split <;> exact h
theorem safe_steps {f : DiskT → DiskT} (h : Safe d name P) (hf : ∀ d', Safe d' name P → Safe (f d') name P) : Safe (stepsD d f).2 name P := by
  unfold stepsD
  split
  · exact hf _ (safe_step h)
  · exact safe_step h
theorem safe_gone (h : Safe d name P) {k : ByteArray} (hk : name ≠ k) : Safe (goneD d k) name P := by
  unfold Safe at *
  unfold goneD
  split
  · exact h
  · show mget (mdel d.files k) name = _
    rw [mget_del_other _ hk]; exact h
theorem safe_create (h : Safe d name P) {k : ByteArray} (hk : name ≠ k) : Safe (createD d k).2 name P := by
  unfold createD
  split
  · exact h
  · split
    · exact h
    · split
      · exact h
      · split
        · exact h
        · refine safe_steps h fun d' h' => ?_
          unfold Safe at *
          show mget (mset d'.files k file0) name = _
          rw [mget_mset_other _ _ hk]; exact h'
theorem safe_remove (h : Safe d name P) {k : ByteArray} (hk : name ≠ k) : Safe (removeD d k).2 name P := by
  unfold removeD
  split
  · exact h
  · exact safe_steps h fun d' h' => safe_gone h' hk
theorem safe_rename (h : Safe d name P) {a b : ByteArray} (ha : name ≠ a) (hb : name ≠ b) : Safe (renameD d a b).2 name P := by
  unfold renameD
  split
  · exact h
  · split
    · exact h
    · refine safe_steps h fun d' h' => ?_
      split
      · exact h'
      · have h1 := safe_gone h' hb
        unfold Safe at *
        show mget (mset (mdel (goneD d' b).files a) b _) name = _
        rw [mget_mset_other _ _ hb, mget_del_other _ ha]; exact h1
theorem safe_write (h : Safe d name P) {k : ByteArray} (hk : name ≠ k) (at_ : Int) (b : List UInt8) : Safe (writeD d k at_ b).2 name P := by
  unfold writeD
  split
  · exact h
  · split
    · exact h
    · split
      · exact h
      · split
        · exact h
        · refine safe_steps h fun d' h' => ?_
          unfold Safe at *
          show mget (mset d'.files k _) name = _
          rw [mget_mset_other _ _ hk]; exact h'
theorem safe_sync (h : Safe d name P) {k : ByteArray} (hk : name ≠ k) : Safe (syncD d k).2 name P := by
  unfold syncD
  split
  · exact h
  · refine safe_steps h fun d' h' => ?_
    unfold Safe at *
    show mget (mset d'.files k _) name = _
    rw [mget_mset_other _ _ hk]; exact h'
theorem safe_fail (h : Safe d name P) (n : Int) (k : Nat) : Safe (failD d n k) name P := by
  unfold failD
  split <;> exact h
theorem mget_onmap (f : FileT → FileT) (l : List (ByteArray × FileT)) (k : ByteArray) : mget (l.map fun p => (p.1, f p.2)) k = (mget l k).map f := by
  induction l with
  | nil => rfl
  | cons p r ih =>
    show mget ((p.1, f p.2) :: r.map _) k = _
    unfold mget
    by_cases e : p.1 = k
    · rw [if_pos e, if_pos e]; rfl
    · rw [if_neg e, if_neg e]; exact ih
theorem safe_on (h : Safe d name P) : Safe (onD d) name P := by
  unfold onD
  split
  · exact h
  · unfold Safe at *
    show mget (d.files.map fun p => (p.1, onF (opensD d) _ p.2)) name = _
    rw [mget_onmap, h]
    rfl
theorem safe_play (h : Safe d name P) {x : OpT} (h1 : name ≠ x.name) (h2 : name ≠ x.dst) : Safe (playD d x) name P := by
  unfold playD
  split
  · exact safe_create h h1
  · exact safe_write h h1 _ _
  · exact safe_sync h h1
  · exact safe_rename h h1 h2
  · exact safe_remove h h1
  · exact safe_fail h _ _
  · exact safe_on h
  · exact h
end
theorem safe_plays {name : ByteArray} {P : List PageT} : ∀ {l : List OpT} {d : DiskT}, Safe d name P → (∀ x ∈ l, name ≠ x.name ∧ name ≠ x.dst) → Safe (playsD d l) name P
  | [], _, h, _ => h
  | x :: l, _, h, hx => safe_plays (l := l) (safe_play h (hx x (List.mem_cons_self ..)).1 (hx x (List.mem_cons_self ..)).2) fun y hy => hx y (List.mem_cons_of_mem _ hy)

/-! From Create to Sync, with no failure near -/
/-- The disk is on; the file holds these pages; a failure is far. -/
structure Near (d : DiskT) (name : ByteArray) (P : List PageT) : Prop where
  on : d.off = false
  file : ∃ f, mget d.files name = some f ∧ f.now = P
  set : ∃ i k, d.set = some (i, k) ∧ 1000 < i + P.length
theorem on_off (d : DiskT) : (onD d).off = false := by
  unfold onD
  split
  · rename_i h; exact h
  · rfl
theorem fail_set {d : DiskT} (h : d.off = false) (n : Int) (k : Nat) : failD d n k = { d with set := some ((max n 0).toNat, k) } := by unfold failD; rw [if_neg (by rw [h]; simp)]
theorem near_create {d : DiskT} {name : ByteArray} (h : d.off = false) (hi : ∃ k, d.set = some (1073741824, k)) (hc : (createD d name).1 = 0) : Near (createD d name).2 name [] := by
  obtain ⟨k, hs⟩ := hi
  unfold createD at hc ⊢
  rw [if_neg (by rw [h]; simp)] at hc ⊢
  split at hc
  · cases hc
  · rename_i h1
    rw [if_neg h1]
    split at hc
    · cases hc
    · rename_i h2
      rw [if_neg h2]
      split at hc
      · cases hc
      · rename_i h3
        rw [if_neg h3]
        have hst : stepD d = (true, { d with steps := d.steps + 1, set := some (1073741823, k) }) := by unfold stepD; rw [hs]
        unfold stepsD
        rw [hst]
        exact ⟨h, ⟨file0, mget_mset_same _ _ _, rfl⟩, 1073741823, k, rfl, by decide⟩
theorem near_step {d : DiskT} {name : ByteArray} {P : List PageT} (h : Near d name P) (hP : P.length ≤ 900) : ∃ i k, d.set = some (i + 1, k) ∧ 1000 < i + 1 + P.length ∧ stepD d = (true, { d with steps := d.steps + 1, set := some (i, k) }) := by
  obtain ⟨i, k, hs, hl⟩ := h.set
  obtain ⟨j, rfl⟩ : ∃ j, i = j + 1 := ⟨i - 1, by omega⟩
  exact ⟨j, k, hs, hl, by unfold stepD; rw [hs]⟩
theorem near_write {d : DiskT} {name : ByteArray} {P : List PageT} (h : Near d name P) (hP : P.length ≤ 900) (b : List UInt8) (hc : (writeD d name P.length b).1 = 0) : Near (writeD d name P.length b).2 name (P ++ [padP b]) := by
  obtain ⟨f, hf, hfn⟩ := h.file
  obtain ⟨i, k, hs, hl, hst⟩ := near_step h hP
  have hfd : findD d name = .inr f := by unfold findD; rw [if_neg (by rw [h.on]; simp), hf]
  unfold writeD at hc ⊢
  rw [hfd] at hc ⊢
  simp only at hc ⊢
  split at hc
  · cases hc
  · rename_i h1
    rw [if_neg h1]
    split at hc
    · cases hc
    · rename_i h2
      rw [if_neg h2]
      split at hc
      · cases hc
      · rename_i h3
        rw [if_neg h3]
        unfold stepsD
        rw [hst]
        refine ⟨h.on, ⟨_, mget_mset_same _ _ _, ?_⟩, i, k, rfl, by rw [List.length_append]; simp; omega⟩
        show layP f.now ((P.length : Int)).toNat (padP b) = _
        rw [hfn, Int.toNat_natCast, layP_end]
theorem near_read {d : DiskT} {name : ByteArray} {P : List PageT} (h : Near d name P) {j : Nat} (hj : j < P.length) : readD d name j = (0, some P[j]) := by
  obtain ⟨f, hf, hfn⟩ := h.file
  have hfd : findD d name = .inr f := by unfold findD; rw [if_neg (by rw [h.on]; simp), hf]
  unfold readD
  rw [hfd]
  simp only
  rw [if_neg (by omega), hfn, Int.toNat_natCast, List.getElem?_eq_getElem hj]
theorem near_sync {d : DiskT} {name : ByteArray} {P : List PageT} (h : Near d name P) (hP : P.length ≤ 900) : (syncD d name).1 = 0 ∧ Safe (syncD d name).2 name P ∧ (syncD d name).2.off = false := by
  obtain ⟨f, hf, hfn⟩ := h.file
  obtain ⟨i, k, hs, hl, hst⟩ := near_step h hP
  have hfd : findD d name = .inr f := by unfold findD; rw [if_neg (by rw [h.on]; simp), hf]
  unfold syncD
  rw [hfd]
  simp only
  unfold stepsD
  rw [hst]
  refine ⟨rfl, ?_, h.on⟩
  unfold Safe
  show mget (mset d.files name _) name = _
  rw [mget_mset_same, hfn]
/-- A step fails at once. -/
theorem safe_crash {d : DiskT} {name : ByteArray} {P : List PageT} (h : Safe d name P) (hoff : d.off = false) (k : Nat) : (syncD (failD d 0 k) name).1 = 7 ∧ Safe (syncD (failD d 0 k) name).2 name P := by
  rw [fail_set hoff]
  have hfd : findD { d with set := some ((max (0 : Int) 0).toNat, k) } name = .inr ⟨P, P, []⟩ := by
    unfold findD
    show (if d.off = true then _ else match mget d.files name with | none => _ | some f => _) = _
    rw [if_neg (by rw [hoff]; simp), show mget d.files name = some ⟨P, P, []⟩ from h]
  unfold syncD
  rw [hfd]
  exact ⟨rfl, h⟩
theorem safe_tell {d : DiskT} {name : ByteArray} {P : List PageT} (h : Safe d name P) (hoff : d.off = false) : lenD d name = (0, P.length) ∧ ∀ (j : Nat) (hj : j < P.length), readD d name j = (0, some P[j]) := by
  have hfd : findD d name = .inr ⟨P, P, []⟩ := by unfold findD; rw [if_neg (by rw [hoff]; simp), show mget d.files name = some ⟨P, P, []⟩ from h]
  constructor
  · unfold lenD; rw [hfd]
  · intro j hj
    unfold readD
    rw [hfd]
    simp only
    rw [if_neg (by omega), Int.toNat_natCast, List.getElem?_eq_getElem hj]
/-- The bytes of pages. -/
def flatP (P : List PageT) : List UInt8 := P.flatMap PageT.b
theorem flatP_len (P : List PageT) : (flatP P).length = P.length * 256 := by
  induction P with
  | nil => rfl
  | cons p l ih =>
    show (p.b ++ flatP l).length = _
    rw [List.length_append, p.len, ih, List.length_cons]
    omega
theorem flatP_snoc (P : List PageT) {j : Nat} (hj : j < P.length) : flatP (P.take (j + 1)) = flatP (P.take j) ++ P[j].b := by
  unfold flatP
  rw [List.take_add_one, List.getElem?_eq_getElem hj, List.flatMap_append]
  simp
end Go.Proofs.Ytikbphafpmdpeaa
