/- does (of the statements): one call of a ledger. -/
import Derived.Test.YtmlcojhanimnpaaJ1
import Derived.Test.YtmlcojhanimnpaaI26
namespace Go.Proofs.Ytmlcojhanimnpaa
open Go.RowKit

def opV (x : OpR) (B : Option Addr) (ca : Nat) : Value := .agg #[.int .u8 x.kind, .string x.name, .string x.a, .string x.b, .int .i64 x.n, .int .i64 x.p, .int .i64 x.c, .slice B x.legs.length ca]
def opCs (x : OpR) (B : Option Addr) (ca : Nat) : Array Value := #[.int .u8 x.kind, .string x.name, .string x.a, .string x.b, .int .i64 x.n, .int .i64 x.p, .int .i64 x.c, .slice B x.legs.length ca]
theorem OpP.after {w w1 w' : World} {p c d : Nat} {v : Value} {err : Int} {s' : Led} {e : Ending} (hb : Below w.heap.size w w1) (h : OpP w1 p c d v err s' e w') : OpP w p c d v err s' e w' := by
  obtain ⟨he, c', d', v', vs', h1, h2, h3⟩ := h
  refine ⟨he, c', d', v', vs', h1, (Fr.below hb).trans h2 fun i hi _ => hi, fun i hi => (h3 i hi).imp id fun h => Nat.le_trans hb.size h⟩
theorem OpP.err {w w' : World} {p c d : Nat} {v : Value} {err err' : Int} {s' : Led} {e : Ending} (h : OpP w p c d v err s' e w') : OpP w p c d v err' s' (.returned (.int .i64 err')) w' := ⟨rfl, h.2⟩
theorem fp_lt {w : World} {p c d : Nat} {v : Value} {vs : List Value} {s : Led} (h : LedAt w p c d v vs s) : ∀ i ∈ fp p c d v, i < w.heap.size := by
  intro i hi
  unfold fp at hi
  simp only [List.mem_cons, Option.mem_toList] at hi
  rcases hi with rfl | rfl | rfl | hi
  · exact lt_of_block h.blk
  · exact h.mc.lt
  · exact h.md.lt
  · exact (World.ownsRow.lt h.own i hi).2
theorem Fr.cellKept {F : List Nat} {w w' : World} (h : Fr F w w') {a : Addr} {u : Value} (ha : a.block ∉ F) (hc : w.cell? a = some u) : w'.cell? a = some u := by
  have hl := cell_lt hc
  exact (World.cell?_of_block (h.block _ hl ha)).trans hc
theorem doesP_of {w w1 w' : World} {p c d : Nat} {v : Value} {err : Int} {s' : Led} {e : Ending} {m l : Int} {r : Int × Int × Led} (hb : Below w.heap.size w w1) (h : OpP w1 p c d v err s' e w') (hr : r = (m, l, s')) : HoldP w p c d v r (.returned (.tuple #[.int .i64 m, .int .i64 l])) w' := by
  subst hr
  exact ⟨rfl, (h.after hb).err⟩
theorem opP_drew {w w' : World} {p c d : Nat} {v : Value} {err : Int} {s' : Led} {e : Ending} (h : OpP w p c d v err s' e w') (n : Nat) : OpP w p c d v err s' e (w'.drewN n) := by
  obtain ⟨he, c', d', v', vs', h1, h2, h3⟩ := h
  exact ⟨he, c', d', v', vs', h1.below (below_drewN (Below.refl _ _) n), ⟨h2.os, h2.tape, h2.output, h2.size, h2.block⟩, h3⟩
set_option maxRecDepth 100000 in
set_option maxHeartbeats 2000000 in
theorem does0a (p c d : Nat) (v : Value) (vs : List Value) (s : Led) (x : OpR) (B : Option Addr) (ca : Nat) (w : World) (hs : Inv s) (h : LedAt w p c d v vs s) (hk : x.kind % 11 = 0) (hk0 : 0 ≤ x.kind) (he : (mint s x.a x.n).1 = 0) :
    Calls Try.prog 11 #[.pointer (some ⟨p, 0, none⟩), opV x B ca] w (HoldP w p c d v (doL s x)) := by
  have q4 : (w.alloc (.cells #[.int .u8 x.kind, .string x.name, .string x.a, .string x.b, .int .i64 x.n, .int .i64 x.p, .int .i64 x.c, .slice B x.legs.length ca] 26)).cell? ⟨w.heap.size, 4, none⟩ = some (.int .i64 x.n) := World.news_of_block (cs := opCs x B ca) (Go.heap_alloc_new w _) 4 _ rfl
  have q6 : (w.alloc (.cells #[.int .u8 x.kind, .string x.name, .string x.a, .string x.b, .int .i64 x.n, .int .i64 x.p, .int .i64 x.c, .slice B x.legs.length ca] 26)).cell? ⟨w.heap.size, 6, none⟩ = some (.int .i64 x.c) := World.news_of_block (cs := opCs x B ca) (Go.heap_alloc_new w _) 6 _ rfl
  have hb1 : Below w.heap.size w (w.alloc (.cells #[.int .u8 x.kind, .string x.name, .string x.a, .string x.b, .int .i64 x.n, .int .i64 x.p, .int .i64 x.c, .slice B x.legs.length ca] 26)) := (Below.refl _ _).alloc (Nat.le_refl _) _
  have H1 := Lib.hid (h.below hb1)
  have HB1 := Lib.hid hb1
  have HS := Lib.hid hs
  have hm : Int.tmod x.kind 11 = 0 := by rw [Int.tmod_eq_emod_of_nonneg hk0]; exact hk
  have HM := Lib.hid hm
  have hnp : ∀ i ∈ fp p c d v, i ≠ w.heap.size := fun i hi => Nat.ne_of_lt (fp_lt h i hi)
  have HNP := Lib.hid hnp
  have HQ4 := Lib.hid q4
  have HQ6 := Lib.hid q6
  clear q4 q6
  have hr : doL s x = (x.n, 0, (mint s x.a x.n).2) := by unfold doL;  rw [if_pos hk]; simp [he]
  have HR := Lib.hid hr
  obtain ⟨E, hE⟩ : ∃ E, (mint s x.a x.n).1 = E := ⟨_, rfl⟩
  obtain rfl : E = 0 := by rw [← hE]; exact he
  have HE := Lib.hid hE
  clear hb1 h hs hk hnp hr hE he hm
  have hmm := HM.out
  unfold opV
  go_enter Try.func11, Try.ntmps11
  go_wp2_with fail
  refine (mint_any p c d v vs s x.a x.n _ HS.out H1.out).mono ?_
  rintro e w2 hP
  obtain ⟨he, hP2⟩ := hP
  subst he
  rw [HE.out]
  have hfr : Fr (fp p c d v) (w.alloc (.cells #[.int .u8 x.kind, .string x.name, .string x.a, .string x.b, .int .i64 x.n, .int .i64 x.p, .int .i64 x.c, .slice B x.legs.length ca] 26)) w2 := by obtain ⟨c', d', v', vs', -, g2, -⟩ := hP2; exact g2
  have r4 := hfr.cellKept (fun hi => HNP.out _ hi rfl) HQ4.out
  have r6 := hfr.cellKept (fun hi => HNP.out _ hi rfl) HQ6.out
  have HP := Lib.hid hP2
  clear hfr hP2
  go_wp2_with fail
  go_ret2
  exact doesP_of (err := 0) HB1.out ⟨rfl, HP.out⟩ HR.out
set_option maxRecDepth 100000 in
set_option maxHeartbeats 2000000 in
theorem does0b (p c d : Nat) (v : Value) (vs : List Value) (s : Led) (x : OpR) (B : Option Addr) (ca : Nat) (w : World) (hs : Inv s) (h : LedAt w p c d v vs s) (hk : x.kind % 11 = 0) (hk0 : 0 ≤ x.kind) (he : (mint s x.a x.n).1 ≠ 0) :
    Calls Try.prog 11 #[.pointer (some ⟨p, 0, none⟩), opV x B ca] w (HoldP w p c d v (doL s x)) := by
  have q4 : (w.alloc (.cells #[.int .u8 x.kind, .string x.name, .string x.a, .string x.b, .int .i64 x.n, .int .i64 x.p, .int .i64 x.c, .slice B x.legs.length ca] 26)).cell? ⟨w.heap.size, 4, none⟩ = some (.int .i64 x.n) := World.news_of_block (cs := opCs x B ca) (Go.heap_alloc_new w _) 4 _ rfl
  have q6 : (w.alloc (.cells #[.int .u8 x.kind, .string x.name, .string x.a, .string x.b, .int .i64 x.n, .int .i64 x.p, .int .i64 x.c, .slice B x.legs.length ca] 26)).cell? ⟨w.heap.size, 6, none⟩ = some (.int .i64 x.c) := World.news_of_block (cs := opCs x B ca) (Go.heap_alloc_new w _) 6 _ rfl
  have hb1 : Below w.heap.size w (w.alloc (.cells #[.int .u8 x.kind, .string x.name, .string x.a, .string x.b, .int .i64 x.n, .int .i64 x.p, .int .i64 x.c, .slice B x.legs.length ca] 26)) := (Below.refl _ _).alloc (Nat.le_refl _) _
  have H1 := Lib.hid (h.below hb1)
  have HB1 := Lib.hid hb1
  have HS := Lib.hid hs
  have hm : Int.tmod x.kind 11 = 0 := by rw [Int.tmod_eq_emod_of_nonneg hk0]; exact hk
  have HM := Lib.hid hm
  have hnp : ∀ i ∈ fp p c d v, i ≠ w.heap.size := fun i hi => Nat.ne_of_lt (fp_lt h i hi)
  have HNP := Lib.hid hnp
  have HQ4 := Lib.hid q4
  have HQ6 := Lib.hid q6
  clear q4 q6
  have hr : doL s x = (0, 0, (mint s x.a x.n).2) := by unfold doL;  rw [if_pos hk]; simp [he]
  have HR := Lib.hid hr
  obtain ⟨E, hE⟩ : ∃ E, (mint s x.a x.n).1 = E := ⟨_, rfl⟩
  have hE0 : ¬ E = 0 := by rw [← hE]; exact he
  have HE := Lib.hid hE
  clear hb1 h hs hk hnp hr hE he hm
  have hmm := HM.out
  unfold opV
  go_enter Try.func11, Try.ntmps11
  go_wp2_with fail
  refine (mint_any p c d v vs s x.a x.n _ HS.out H1.out).mono ?_
  rintro e w2 hP
  obtain ⟨he, hP2⟩ := hP
  subst he
  rw [HE.out]
  have HP := Lib.hid hP2
  clear hP2
  go_wp2_with fail
  go_ret2
  exact doesP_of (err := 0) HB1.out ⟨rfl, HP.out⟩ HR.out
set_option maxRecDepth 100000 in
set_option maxHeartbeats 2000000 in
theorem does1a (p c d : Nat) (v : Value) (vs : List Value) (s : Led) (x : OpR) (B : Option Addr) (ca : Nat) (w : World) (hs : Inv s) (h : LedAt w p c d v vs s) (hk : x.kind % 11 = 1) (hk0 : 0 ≤ x.kind) (he : (pay s x.a x.b x.n x.c).1 = 0) :
    Calls Try.prog 11 #[.pointer (some ⟨p, 0, none⟩), opV x B ca] w (HoldP w p c d v (doL s x)) := by
  have q4 : (w.alloc (.cells #[.int .u8 x.kind, .string x.name, .string x.a, .string x.b, .int .i64 x.n, .int .i64 x.p, .int .i64 x.c, .slice B x.legs.length ca] 26)).cell? ⟨w.heap.size, 4, none⟩ = some (.int .i64 x.n) := World.news_of_block (cs := opCs x B ca) (Go.heap_alloc_new w _) 4 _ rfl
  have q6 : (w.alloc (.cells #[.int .u8 x.kind, .string x.name, .string x.a, .string x.b, .int .i64 x.n, .int .i64 x.p, .int .i64 x.c, .slice B x.legs.length ca] 26)).cell? ⟨w.heap.size, 6, none⟩ = some (.int .i64 x.c) := World.news_of_block (cs := opCs x B ca) (Go.heap_alloc_new w _) 6 _ rfl
  have hb1 : Below w.heap.size w (w.alloc (.cells #[.int .u8 x.kind, .string x.name, .string x.a, .string x.b, .int .i64 x.n, .int .i64 x.p, .int .i64 x.c, .slice B x.legs.length ca] 26)) := (Below.refl _ _).alloc (Nat.le_refl _) _
  have H1 := Lib.hid (h.below hb1)
  have HB1 := Lib.hid hb1
  have HS := Lib.hid hs
  have hm : Int.tmod x.kind 11 = 1 := by rw [Int.tmod_eq_emod_of_nonneg hk0]; exact hk
  have HM := Lib.hid hm
  have hnp : ∀ i ∈ fp p c d v, i ≠ w.heap.size := fun i hi => Nat.ne_of_lt (fp_lt h i hi)
  have HNP := Lib.hid hnp
  have HQ4 := Lib.hid q4
  have HQ6 := Lib.hid q6
  clear q4 q6
  have hr : doL s x = (0, x.c, (pay s x.a x.b x.n x.c).2) := by unfold doL; rw [if_neg (by omega)]; rw [if_pos hk]; simp [he]
  have HR := Lib.hid hr
  obtain ⟨E, hE⟩ : ∃ E, (pay s x.a x.b x.n x.c).1 = E := ⟨_, rfl⟩
  obtain rfl : E = 0 := by rw [← hE]; exact he
  have HE := Lib.hid hE
  clear hb1 h hs hk hnp hr hE he hm
  have hmm := HM.out
  unfold opV
  go_enter Try.func11, Try.ntmps11
  go_wp2_with fail
  refine (pay_any p c d v vs s x.a x.b x.n x.c _ HS.out H1.out).mono ?_
  rintro e w2 hP
  obtain ⟨he, hP2⟩ := hP
  subst he
  rw [HE.out]
  have hfr : Fr (fp p c d v) (w.alloc (.cells #[.int .u8 x.kind, .string x.name, .string x.a, .string x.b, .int .i64 x.n, .int .i64 x.p, .int .i64 x.c, .slice B x.legs.length ca] 26)) w2 := by obtain ⟨c', d', v', vs', -, g2, -⟩ := hP2; exact g2
  have r4 := hfr.cellKept (fun hi => HNP.out _ hi rfl) HQ4.out
  have r6 := hfr.cellKept (fun hi => HNP.out _ hi rfl) HQ6.out
  have HP := Lib.hid hP2
  clear hfr hP2
  go_wp2_with fail
  go_quiet (fail)
  go_wp2_with fail
  go_ret2
  exact doesP_of (err := 0) HB1.out (opP_drew ⟨rfl, HP.out⟩ _) HR.out
set_option maxRecDepth 100000 in
set_option maxHeartbeats 2000000 in
theorem does1b (p c d : Nat) (v : Value) (vs : List Value) (s : Led) (x : OpR) (B : Option Addr) (ca : Nat) (w : World) (hs : Inv s) (h : LedAt w p c d v vs s) (hk : x.kind % 11 = 1) (hk0 : 0 ≤ x.kind) (he : (pay s x.a x.b x.n x.c).1 ≠ 0) :
    Calls Try.prog 11 #[.pointer (some ⟨p, 0, none⟩), opV x B ca] w (HoldP w p c d v (doL s x)) := by
  have q4 : (w.alloc (.cells #[.int .u8 x.kind, .string x.name, .string x.a, .string x.b, .int .i64 x.n, .int .i64 x.p, .int .i64 x.c, .slice B x.legs.length ca] 26)).cell? ⟨w.heap.size, 4, none⟩ = some (.int .i64 x.n) := World.news_of_block (cs := opCs x B ca) (Go.heap_alloc_new w _) 4 _ rfl
  have q6 : (w.alloc (.cells #[.int .u8 x.kind, .string x.name, .string x.a, .string x.b, .int .i64 x.n, .int .i64 x.p, .int .i64 x.c, .slice B x.legs.length ca] 26)).cell? ⟨w.heap.size, 6, none⟩ = some (.int .i64 x.c) := World.news_of_block (cs := opCs x B ca) (Go.heap_alloc_new w _) 6 _ rfl
  have hb1 : Below w.heap.size w (w.alloc (.cells #[.int .u8 x.kind, .string x.name, .string x.a, .string x.b, .int .i64 x.n, .int .i64 x.p, .int .i64 x.c, .slice B x.legs.length ca] 26)) := (Below.refl _ _).alloc (Nat.le_refl _) _
  have H1 := Lib.hid (h.below hb1)
  have HB1 := Lib.hid hb1
  have HS := Lib.hid hs
  have hm : Int.tmod x.kind 11 = 1 := by rw [Int.tmod_eq_emod_of_nonneg hk0]; exact hk
  have HM := Lib.hid hm
  have hnp : ∀ i ∈ fp p c d v, i ≠ w.heap.size := fun i hi => Nat.ne_of_lt (fp_lt h i hi)
  have HNP := Lib.hid hnp
  have HQ4 := Lib.hid q4
  have HQ6 := Lib.hid q6
  clear q4 q6
  have hr : doL s x = (0, 0, (pay s x.a x.b x.n x.c).2) := by unfold doL; rw [if_neg (by omega)]; rw [if_pos hk]; simp [he]
  have HR := Lib.hid hr
  obtain ⟨E, hE⟩ : ∃ E, (pay s x.a x.b x.n x.c).1 = E := ⟨_, rfl⟩
  have hE0 : ¬ E = 0 := by rw [← hE]; exact he
  have HE := Lib.hid hE
  clear hb1 h hs hk hnp hr hE he hm
  have hmm := HM.out
  unfold opV
  go_enter Try.func11, Try.ntmps11
  go_wp2_with fail
  refine (pay_any p c d v vs s x.a x.b x.n x.c _ HS.out H1.out).mono ?_
  rintro e w2 hP
  obtain ⟨he, hP2⟩ := hP
  subst he
  rw [HE.out]
  have HP := Lib.hid hP2
  clear hP2
  go_wp2_with fail
  go_ret2
  exact doesP_of (err := 0) HB1.out ⟨rfl, HP.out⟩ HR.out
set_option maxRecDepth 100000 in
set_option maxHeartbeats 2000000 in
theorem does2a (p c d : Nat) (v : Value) (vs : List Value) (s : Led) (x : OpR) (B : Option Addr) (ca : Nat) (w : World) (hs : Inv s) (h : LedAt w p c d v vs s) (hk : x.kind % 11 = 2) (hk0 : 0 ≤ x.kind) (he : (openCh s x.name x.a x.b x.n x.p x.c).1 = 0) :
    Calls Try.prog 11 #[.pointer (some ⟨p, 0, none⟩), opV x B ca] w (HoldP w p c d v (doL s x)) := by
  have q4 : (w.alloc (.cells #[.int .u8 x.kind, .string x.name, .string x.a, .string x.b, .int .i64 x.n, .int .i64 x.p, .int .i64 x.c, .slice B x.legs.length ca] 26)).cell? ⟨w.heap.size, 4, none⟩ = some (.int .i64 x.n) := World.news_of_block (cs := opCs x B ca) (Go.heap_alloc_new w _) 4 _ rfl
  have q6 : (w.alloc (.cells #[.int .u8 x.kind, .string x.name, .string x.a, .string x.b, .int .i64 x.n, .int .i64 x.p, .int .i64 x.c, .slice B x.legs.length ca] 26)).cell? ⟨w.heap.size, 6, none⟩ = some (.int .i64 x.c) := World.news_of_block (cs := opCs x B ca) (Go.heap_alloc_new w _) 6 _ rfl
  have hb1 : Below w.heap.size w (w.alloc (.cells #[.int .u8 x.kind, .string x.name, .string x.a, .string x.b, .int .i64 x.n, .int .i64 x.p, .int .i64 x.c, .slice B x.legs.length ca] 26)) := (Below.refl _ _).alloc (Nat.le_refl _) _
  have H1 := Lib.hid (h.below hb1)
  have HB1 := Lib.hid hb1
  have HS := Lib.hid hs
  have hm : Int.tmod x.kind 11 = 2 := by rw [Int.tmod_eq_emod_of_nonneg hk0]; exact hk
  have HM := Lib.hid hm
  have hnp : ∀ i ∈ fp p c d v, i ≠ w.heap.size := fun i hi => Nat.ne_of_lt (fp_lt h i hi)
  have HNP := Lib.hid hnp
  have HQ4 := Lib.hid q4
  have HQ6 := Lib.hid q6
  clear q4 q6
  have hr : doL s x = (0, x.c, (openCh s x.name x.a x.b x.n x.p x.c).2) := by unfold doL; rw [if_neg (by omega)]; rw [if_neg (by omega)]; rw [if_pos hk]; simp [he]
  have HR := Lib.hid hr
  obtain ⟨E, hE⟩ : ∃ E, (openCh s x.name x.a x.b x.n x.p x.c).1 = E := ⟨_, rfl⟩
  obtain rfl : E = 0 := by rw [← hE]; exact he
  have HE := Lib.hid hE
  clear hb1 h hs hk hnp hr hE he hm
  have hmm := HM.out
  unfold opV
  go_enter Try.func11, Try.ntmps11
  go_wp2_with fail
  refine (open_any p c d v vs s x.name x.a x.b x.n x.p x.c _ HS.out H1.out).mono ?_
  rintro e w2 hP
  obtain ⟨he, hP2⟩ := hP
  subst he
  rw [HE.out]
  have hfr : Fr (fp p c d v) (w.alloc (.cells #[.int .u8 x.kind, .string x.name, .string x.a, .string x.b, .int .i64 x.n, .int .i64 x.p, .int .i64 x.c, .slice B x.legs.length ca] 26)) w2 := by obtain ⟨c', d', v', vs', -, g2, -⟩ := hP2; exact g2
  have r4 := hfr.cellKept (fun hi => HNP.out _ hi rfl) HQ4.out
  have r6 := hfr.cellKept (fun hi => HNP.out _ hi rfl) HQ6.out
  have HP := Lib.hid hP2
  clear hfr hP2
  go_wp2_with fail
  go_quiet (fail)
  go_wp2_with fail
  go_ret2
  exact doesP_of (err := 0) HB1.out (opP_drew ⟨rfl, HP.out⟩ _) HR.out
set_option maxRecDepth 100000 in
set_option maxHeartbeats 2000000 in
theorem does2b (p c d : Nat) (v : Value) (vs : List Value) (s : Led) (x : OpR) (B : Option Addr) (ca : Nat) (w : World) (hs : Inv s) (h : LedAt w p c d v vs s) (hk : x.kind % 11 = 2) (hk0 : 0 ≤ x.kind) (he : (openCh s x.name x.a x.b x.n x.p x.c).1 ≠ 0) :
    Calls Try.prog 11 #[.pointer (some ⟨p, 0, none⟩), opV x B ca] w (HoldP w p c d v (doL s x)) := by
  have q4 : (w.alloc (.cells #[.int .u8 x.kind, .string x.name, .string x.a, .string x.b, .int .i64 x.n, .int .i64 x.p, .int .i64 x.c, .slice B x.legs.length ca] 26)).cell? ⟨w.heap.size, 4, none⟩ = some (.int .i64 x.n) := World.news_of_block (cs := opCs x B ca) (Go.heap_alloc_new w _) 4 _ rfl
  have q6 : (w.alloc (.cells #[.int .u8 x.kind, .string x.name, .string x.a, .string x.b, .int .i64 x.n, .int .i64 x.p, .int .i64 x.c, .slice B x.legs.length ca] 26)).cell? ⟨w.heap.size, 6, none⟩ = some (.int .i64 x.c) := World.news_of_block (cs := opCs x B ca) (Go.heap_alloc_new w _) 6 _ rfl
  have hb1 : Below w.heap.size w (w.alloc (.cells #[.int .u8 x.kind, .string x.name, .string x.a, .string x.b, .int .i64 x.n, .int .i64 x.p, .int .i64 x.c, .slice B x.legs.length ca] 26)) := (Below.refl _ _).alloc (Nat.le_refl _) _
  have H1 := Lib.hid (h.below hb1)
  have HB1 := Lib.hid hb1
  have HS := Lib.hid hs
  have hm : Int.tmod x.kind 11 = 2 := by rw [Int.tmod_eq_emod_of_nonneg hk0]; exact hk
  have HM := Lib.hid hm
  have hnp : ∀ i ∈ fp p c d v, i ≠ w.heap.size := fun i hi => Nat.ne_of_lt (fp_lt h i hi)
  have HNP := Lib.hid hnp
  have HQ4 := Lib.hid q4
  have HQ6 := Lib.hid q6
  clear q4 q6
  have hr : doL s x = (0, 0, (openCh s x.name x.a x.b x.n x.p x.c).2) := by unfold doL; rw [if_neg (by omega)]; rw [if_neg (by omega)]; rw [if_pos hk]; simp [he]
  have HR := Lib.hid hr
  obtain ⟨E, hE⟩ : ∃ E, (openCh s x.name x.a x.b x.n x.p x.c).1 = E := ⟨_, rfl⟩
  have hE0 : ¬ E = 0 := by rw [← hE]; exact he
  have HE := Lib.hid hE
  clear hb1 h hs hk hnp hr hE he hm
  have hmm := HM.out
  unfold opV
  go_enter Try.func11, Try.ntmps11
  go_wp2_with fail
  refine (open_any p c d v vs s x.name x.a x.b x.n x.p x.c _ HS.out H1.out).mono ?_
  rintro e w2 hP
  obtain ⟨he, hP2⟩ := hP
  subst he
  rw [HE.out]
  have HP := Lib.hid hP2
  clear hP2
  go_wp2_with fail
  go_ret2
  exact doesP_of (err := 0) HB1.out ⟨rfl, HP.out⟩ HR.out
set_option maxRecDepth 100000 in
set_option maxHeartbeats 2000000 in
theorem does7a (p c d : Nat) (v : Value) (vs : List Value) (s : Led) (x : OpR) (B : Option Addr) (ca : Nat) (w : World) (hs : Inv s) (h : LedAt w p c d v vs s) (hk : x.kind % 11 = 7) (hk0 : 0 ≤ x.kind) (he : (closeCh s x.name x.c).1 = 0) :
    Calls Try.prog 11 #[.pointer (some ⟨p, 0, none⟩), opV x B ca] w (HoldP w p c d v (doL s x)) := by
  have q4 : (w.alloc (.cells #[.int .u8 x.kind, .string x.name, .string x.a, .string x.b, .int .i64 x.n, .int .i64 x.p, .int .i64 x.c, .slice B x.legs.length ca] 26)).cell? ⟨w.heap.size, 4, none⟩ = some (.int .i64 x.n) := World.news_of_block (cs := opCs x B ca) (Go.heap_alloc_new w _) 4 _ rfl
  have q6 : (w.alloc (.cells #[.int .u8 x.kind, .string x.name, .string x.a, .string x.b, .int .i64 x.n, .int .i64 x.p, .int .i64 x.c, .slice B x.legs.length ca] 26)).cell? ⟨w.heap.size, 6, none⟩ = some (.int .i64 x.c) := World.news_of_block (cs := opCs x B ca) (Go.heap_alloc_new w _) 6 _ rfl
  have hb1 : Below w.heap.size w (w.alloc (.cells #[.int .u8 x.kind, .string x.name, .string x.a, .string x.b, .int .i64 x.n, .int .i64 x.p, .int .i64 x.c, .slice B x.legs.length ca] 26)) := (Below.refl _ _).alloc (Nat.le_refl _) _
  have H1 := Lib.hid (h.below hb1)
  have HB1 := Lib.hid hb1
  have HS := Lib.hid hs
  have hm : Int.tmod x.kind 11 = 7 := by rw [Int.tmod_eq_emod_of_nonneg hk0]; exact hk
  have HM := Lib.hid hm
  have hnp : ∀ i ∈ fp p c d v, i ≠ w.heap.size := fun i hi => Nat.ne_of_lt (fp_lt h i hi)
  have HNP := Lib.hid hnp
  have HQ4 := Lib.hid q4
  have HQ6 := Lib.hid q6
  clear q4 q6
  have hr : doL s x = (0, x.c + 1, (closeCh s x.name x.c).2) := by unfold doL; rw [if_neg (by omega)]; rw [if_neg (by omega)]; rw [if_neg (by omega)]; rw [if_neg (by omega)]; rw [if_neg (by omega)]; rw [if_neg (by omega)]; rw [if_pos hk]; simp [he]
  have hc := (hs.closeCh x.name x.c).2.2.2 he
  unfold maxCoin at hc
  obtain ⟨hc0, hc1⟩ := hc
  have HR := Lib.hid hr
  obtain ⟨E, hE⟩ : ∃ E, (closeCh s x.name x.c).1 = E := ⟨_, rfl⟩
  obtain rfl : E = 0 := by rw [← hE]; exact he
  have HE := Lib.hid hE
  clear hb1 h hs hk hnp hr hE he hm
  have hmm := HM.out
  unfold opV
  go_enter Try.func11, Try.ntmps11
  go_wp2_with fail
  refine (close_any p c d v vs s x.name x.c _ HS.out H1.out).mono ?_
  rintro e w2 hP
  obtain ⟨he, hP2⟩ := hP
  subst he
  rw [HE.out]
  have hfr : Fr (fp p c d v) (w.alloc (.cells #[.int .u8 x.kind, .string x.name, .string x.a, .string x.b, .int .i64 x.n, .int .i64 x.p, .int .i64 x.c, .slice B x.legs.length ca] 26)) w2 := by obtain ⟨c', d', v', vs', -, g2, -⟩ := hP2; exact g2
  have r4 := hfr.cellKept (fun hi => HNP.out _ hi rfl) HQ4.out
  have r6 := hfr.cellKept (fun hi => HNP.out _ hi rfl) HQ6.out
  have HP := Lib.hid hP2
  clear hfr hP2
  go_wp2_with fail
  go_quiet (fail)
  go_wp2_with fail
  go_ret2
  exact doesP_of (err := 0) HB1.out (opP_drew ⟨rfl, HP.out⟩ _) HR.out
set_option maxRecDepth 100000 in
set_option maxHeartbeats 2000000 in
theorem does7b (p c d : Nat) (v : Value) (vs : List Value) (s : Led) (x : OpR) (B : Option Addr) (ca : Nat) (w : World) (hs : Inv s) (h : LedAt w p c d v vs s) (hk : x.kind % 11 = 7) (hk0 : 0 ≤ x.kind) (he : (closeCh s x.name x.c).1 ≠ 0) :
    Calls Try.prog 11 #[.pointer (some ⟨p, 0, none⟩), opV x B ca] w (HoldP w p c d v (doL s x)) := by
  have q4 : (w.alloc (.cells #[.int .u8 x.kind, .string x.name, .string x.a, .string x.b, .int .i64 x.n, .int .i64 x.p, .int .i64 x.c, .slice B x.legs.length ca] 26)).cell? ⟨w.heap.size, 4, none⟩ = some (.int .i64 x.n) := World.news_of_block (cs := opCs x B ca) (Go.heap_alloc_new w _) 4 _ rfl
  have q6 : (w.alloc (.cells #[.int .u8 x.kind, .string x.name, .string x.a, .string x.b, .int .i64 x.n, .int .i64 x.p, .int .i64 x.c, .slice B x.legs.length ca] 26)).cell? ⟨w.heap.size, 6, none⟩ = some (.int .i64 x.c) := World.news_of_block (cs := opCs x B ca) (Go.heap_alloc_new w _) 6 _ rfl
  have hb1 : Below w.heap.size w (w.alloc (.cells #[.int .u8 x.kind, .string x.name, .string x.a, .string x.b, .int .i64 x.n, .int .i64 x.p, .int .i64 x.c, .slice B x.legs.length ca] 26)) := (Below.refl _ _).alloc (Nat.le_refl _) _
  have H1 := Lib.hid (h.below hb1)
  have HB1 := Lib.hid hb1
  have HS := Lib.hid hs
  have hm : Int.tmod x.kind 11 = 7 := by rw [Int.tmod_eq_emod_of_nonneg hk0]; exact hk
  have HM := Lib.hid hm
  have hnp : ∀ i ∈ fp p c d v, i ≠ w.heap.size := fun i hi => Nat.ne_of_lt (fp_lt h i hi)
  have HNP := Lib.hid hnp
  have HQ4 := Lib.hid q4
  have HQ6 := Lib.hid q6
  clear q4 q6
  have hr : doL s x = (0, 0, (closeCh s x.name x.c).2) := by unfold doL; rw [if_neg (by omega)]; rw [if_neg (by omega)]; rw [if_neg (by omega)]; rw [if_neg (by omega)]; rw [if_neg (by omega)]; rw [if_neg (by omega)]; rw [if_pos hk]; simp [he]
  have HR := Lib.hid hr
  obtain ⟨E, hE⟩ : ∃ E, (closeCh s x.name x.c).1 = E := ⟨_, rfl⟩
  have hE0 : ¬ E = 0 := by rw [← hE]; exact he
  have HE := Lib.hid hE
  clear hb1 h hs hk hnp hr hE he hm
  have hmm := HM.out
  unfold opV
  go_enter Try.func11, Try.ntmps11
  go_wp2_with fail
  refine (close_any p c d v vs s x.name x.c _ HS.out H1.out).mono ?_
  rintro e w2 hP
  obtain ⟨he, hP2⟩ := hP
  subst he
  rw [HE.out]
  have HP := Lib.hid hP2
  clear hP2
  go_wp2_with fail
  go_ret2
  exact doesP_of (err := 0) HB1.out ⟨rfl, HP.out⟩ HR.out
set_option maxRecDepth 100000 in
set_option maxHeartbeats 2000000 in
theorem does5 (p c d : Nat) (v : Value) (vs : List Value) (s : Led) (x : OpR) (B : Option Addr) (ca : Nat) (w : World) (hs : Inv s) (h : LedAt w p c d v vs s) (hk : x.kind % 11 = 5) (hk0 : 0 ≤ x.kind) :
    Calls Try.prog 11 #[.pointer (some ⟨p, 0, none⟩), opV x B ca] w (HoldP w p c d v (doL s x)) := by
  have q4 : (w.alloc (.cells #[.int .u8 x.kind, .string x.name, .string x.a, .string x.b, .int .i64 x.n, .int .i64 x.p, .int .i64 x.c, .slice B x.legs.length ca] 26)).cell? ⟨w.heap.size, 4, none⟩ = some (.int .i64 x.n) := World.news_of_block (cs := opCs x B ca) (Go.heap_alloc_new w _) 4 _ rfl
  have q6 : (w.alloc (.cells #[.int .u8 x.kind, .string x.name, .string x.a, .string x.b, .int .i64 x.n, .int .i64 x.p, .int .i64 x.c, .slice B x.legs.length ca] 26)).cell? ⟨w.heap.size, 6, none⟩ = some (.int .i64 x.c) := World.news_of_block (cs := opCs x B ca) (Go.heap_alloc_new w _) 6 _ rfl
  have hb1 : Below w.heap.size w (w.alloc (.cells #[.int .u8 x.kind, .string x.name, .string x.a, .string x.b, .int .i64 x.n, .int .i64 x.p, .int .i64 x.c, .slice B x.legs.length ca] 26)) := (Below.refl _ _).alloc (Nat.le_refl _) _
  have H1 := Lib.hid (h.below hb1)
  have HB1 := Lib.hid hb1
  have HS := Lib.hid hs
  have hm : Int.tmod x.kind 11 = 5 := by rw [Int.tmod_eq_emod_of_nonneg hk0]; exact hk
  have HM := Lib.hid hm
  have hnp : ∀ i ∈ fp p c d v, i ≠ w.heap.size := fun i hi => Nat.ne_of_lt (fp_lt h i hi)
  have HNP := Lib.hid hnp
  have HQ4 := Lib.hid q4
  have HQ6 := Lib.hid q6
  clear q4 q6
  have hr : doL s x = (0, 0, (endH true s x.n).2) := by unfold doL; rw [if_neg (by omega)]; rw [if_neg (by omega)]; rw [if_neg (by omega)]; rw [if_neg (by omega)]; rw [if_pos hk]
  have HR := Lib.hid hr
  clear hb1 h hs hk hnp hr hm
  have hmm := HM.out
  unfold opV
  go_enter Try.func11, Try.ntmps11
  go_wp2_with fail
  refine (settle_any p c d v vs s x.n _ HS.out H1.out).mono ?_
  rintro e w2 hP
  obtain ⟨he, hP2⟩ := hP
  subst he
  have HP := Lib.hid hP2
  clear hP2
  go_wp2_with fail
  go_ret2
  exact doesP_of (err := 0) HB1.out ⟨rfl, HP.out⟩ HR.out
set_option maxRecDepth 100000 in
set_option maxHeartbeats 2000000 in
theorem does6 (p c d : Nat) (v : Value) (vs : List Value) (s : Led) (x : OpR) (B : Option Addr) (ca : Nat) (w : World) (hs : Inv s) (h : LedAt w p c d v vs s) (hk : x.kind % 11 = 6) (hk0 : 0 ≤ x.kind) :
    Calls Try.prog 11 #[.pointer (some ⟨p, 0, none⟩), opV x B ca] w (HoldP w p c d v (doL s x)) := by
  have q4 : (w.alloc (.cells #[.int .u8 x.kind, .string x.name, .string x.a, .string x.b, .int .i64 x.n, .int .i64 x.p, .int .i64 x.c, .slice B x.legs.length ca] 26)).cell? ⟨w.heap.size, 4, none⟩ = some (.int .i64 x.n) := World.news_of_block (cs := opCs x B ca) (Go.heap_alloc_new w _) 4 _ rfl
  have q6 : (w.alloc (.cells #[.int .u8 x.kind, .string x.name, .string x.a, .string x.b, .int .i64 x.n, .int .i64 x.p, .int .i64 x.c, .slice B x.legs.length ca] 26)).cell? ⟨w.heap.size, 6, none⟩ = some (.int .i64 x.c) := World.news_of_block (cs := opCs x B ca) (Go.heap_alloc_new w _) 6 _ rfl
  have hb1 : Below w.heap.size w (w.alloc (.cells #[.int .u8 x.kind, .string x.name, .string x.a, .string x.b, .int .i64 x.n, .int .i64 x.p, .int .i64 x.c, .slice B x.legs.length ca] 26)) := (Below.refl _ _).alloc (Nat.le_refl _) _
  have H1 := Lib.hid (h.below hb1)
  have HB1 := Lib.hid hb1
  have HS := Lib.hid hs
  have hm : Int.tmod x.kind 11 = 6 := by rw [Int.tmod_eq_emod_of_nonneg hk0]; exact hk
  have HM := Lib.hid hm
  have hnp : ∀ i ∈ fp p c d v, i ≠ w.heap.size := fun i hi => Nat.ne_of_lt (fp_lt h i hi)
  have HNP := Lib.hid hnp
  have HQ4 := Lib.hid q4
  have HQ6 := Lib.hid q6
  clear q4 q6
  have hr : doL s x = (0, 0, (endH false s x.n).2) := by unfold doL; rw [if_neg (by omega)]; rw [if_neg (by omega)]; rw [if_neg (by omega)]; rw [if_neg (by omega)]; rw [if_neg (by omega)]; rw [if_pos hk]
  have HR := Lib.hid hr
  clear hb1 h hs hk hnp hr hm
  have hmm := HM.out
  unfold opV
  go_enter Try.func11, Try.ntmps11
  go_wp2_with fail
  refine (fail_any p c d v vs s x.n _ HS.out H1.out).mono ?_
  rintro e w2 hP
  obtain ⟨he, hP2⟩ := hP
  subst he
  have HP := Lib.hid hP2
  clear hP2
  go_wp2_with fail
  go_ret2
  exact doesP_of (err := 0) HB1.out ⟨rfl, HP.out⟩ HR.out
set_option maxRecDepth 100000 in
set_option maxHeartbeats 2000000 in
theorem does3 (p c d : Nat) (v : Value) (vs : List Value) (s : Led) (x : OpR) (B : Option Addr) (ca : Nat) (w : World) (hs : Inv s) (h : LedAt w p c d v vs s) (hk : x.kind % 11 = 3) (hk0 : 0 ≤ x.kind) (hlast : s.last ≤ 4611686018427387904) (hlen : x.legs.length ≤ 100000) (hA : LegsIn w B x.legs) :
    Calls Try.prog 11 #[.pointer (some ⟨p, 0, none⟩), opV x B ca] w (HoldP w p c d v (doL s x)) := by
  have q4 : (w.alloc (.cells #[.int .u8 x.kind, .string x.name, .string x.a, .string x.b, .int .i64 x.n, .int .i64 x.p, .int .i64 x.c, .slice B x.legs.length ca] 26)).cell? ⟨w.heap.size, 4, none⟩ = some (.int .i64 x.n) := World.news_of_block (cs := opCs x B ca) (Go.heap_alloc_new w _) 4 _ rfl
  have q6 : (w.alloc (.cells #[.int .u8 x.kind, .string x.name, .string x.a, .string x.b, .int .i64 x.n, .int .i64 x.p, .int .i64 x.c, .slice B x.legs.length ca] 26)).cell? ⟨w.heap.size, 6, none⟩ = some (.int .i64 x.c) := World.news_of_block (cs := opCs x B ca) (Go.heap_alloc_new w _) 6 _ rfl
  have hb1 : Below w.heap.size w (w.alloc (.cells #[.int .u8 x.kind, .string x.name, .string x.a, .string x.b, .int .i64 x.n, .int .i64 x.p, .int .i64 x.c, .slice B x.legs.length ca] 26)) := (Below.refl _ _).alloc (Nat.le_refl _) _
  have H1 := Lib.hid (h.below hb1)
  have HB1 := Lib.hid hb1
  have HS := Lib.hid hs
  have hm : Int.tmod x.kind 11 = 3 := by rw [Int.tmod_eq_emod_of_nonneg hk0]; exact hk
  have HM := Lib.hid hm
  have hnp : ∀ i ∈ fp p c d v, i ≠ w.heap.size := fun i hi => Nat.ne_of_lt (fp_lt h i hi)
  have HNP := Lib.hid hnp
  have HQ4 := Lib.hid q4
  have HQ6 := Lib.hid q6
  clear q4 q6
  have hr : doL s x = (0, 0, (hold s x.legs).2.2) := by unfold doL; rw [if_neg (by omega)]; rw [if_neg (by omega)]; rw [if_neg (by omega)]; rw [if_pos (by omega)]
  have HR := Lib.hid hr
  have HA1 := Lib.hid (Cells.below hA hb1 : LegsIn _ _ _)
  have HLA := Lib.hid hlast
  clear hb1 h hs hk hnp hr hm hA hlast
  have hmm := HM.out
  unfold opV
  go_enter Try.func11, Try.ntmps11
  go_wp2_with fail
  refine (lent_any x.legs B ca _ hlen HA1.out).mono ?_
  rintro e w2 ⟨A2, c2, rfl, hown, hb2⟩
  have HO2 := Lib.hid hown
  have HB2 := Lib.hid hb2
  have HIN : LegsIn w2 A2 x.legs := legs_of_own hown
  have HIN2 := Lib.hid HIN
  clear hown hb2 HIN
  go_wp2_with fail
  refine (hold_any p c d v vs s x.legs A2 c2 _ HS.out (H1.out.below HB2.out) HLA.out (by omega) HIN2.out).mono ?_
  rintro e w3 ⟨rfl, hP⟩
  have HP := Lib.hid hP
  clear hP
  go_wp2_with fail
  go_ret2
  exact doesP_of (HB1.out.trans (HB2.out.mono HB1.out.size)) HP.out HR.out
set_option maxRecDepth 100000 in
set_option maxHeartbeats 2000000 in
theorem does4 (p c d : Nat) (v : Value) (vs : List Value) (s : Led) (x : OpR) (B : Option Addr) (ca : Nat) (w : World) (hs : Inv s) (h : LedAt w p c d v vs s) (hk : x.kind % 11 = 4) (hk0 : 0 ≤ x.kind) (hlast : s.last ≤ 4611686018427387904) (hlen : x.legs.length ≤ 100000) (hA : LegsIn w B x.legs) :
    Calls Try.prog 11 #[.pointer (some ⟨p, 0, none⟩), opV x B ca] w (HoldP w p c d v (doL s x)) := by
  have q4 : (w.alloc (.cells #[.int .u8 x.kind, .string x.name, .string x.a, .string x.b, .int .i64 x.n, .int .i64 x.p, .int .i64 x.c, .slice B x.legs.length ca] 26)).cell? ⟨w.heap.size, 4, none⟩ = some (.int .i64 x.n) := World.news_of_block (cs := opCs x B ca) (Go.heap_alloc_new w _) 4 _ rfl
  have q6 : (w.alloc (.cells #[.int .u8 x.kind, .string x.name, .string x.a, .string x.b, .int .i64 x.n, .int .i64 x.p, .int .i64 x.c, .slice B x.legs.length ca] 26)).cell? ⟨w.heap.size, 6, none⟩ = some (.int .i64 x.c) := World.news_of_block (cs := opCs x B ca) (Go.heap_alloc_new w _) 6 _ rfl
  have hb1 : Below w.heap.size w (w.alloc (.cells #[.int .u8 x.kind, .string x.name, .string x.a, .string x.b, .int .i64 x.n, .int .i64 x.p, .int .i64 x.c, .slice B x.legs.length ca] 26)) := (Below.refl _ _).alloc (Nat.le_refl _) _
  have H1 := Lib.hid (h.below hb1)
  have HB1 := Lib.hid hb1
  have HS := Lib.hid hs
  have hm : Int.tmod x.kind 11 = 4 := by rw [Int.tmod_eq_emod_of_nonneg hk0]; exact hk
  have HM := Lib.hid hm
  have hnp : ∀ i ∈ fp p c d v, i ≠ w.heap.size := fun i hi => Nat.ne_of_lt (fp_lt h i hi)
  have HNP := Lib.hid hnp
  have HQ4 := Lib.hid q4
  have HQ6 := Lib.hid q6
  clear q4 q6
  have hr : doL s x = (0, 0, (hold s x.legs).2.2) := by unfold doL; rw [if_neg (by omega)]; rw [if_neg (by omega)]; rw [if_neg (by omega)]; rw [if_pos (by omega)]
  have HR := Lib.hid hr
  have HA1 := Lib.hid (Cells.below hA hb1 : LegsIn _ _ _)
  have HLA := Lib.hid hlast
  clear hb1 h hs hk hnp hr hm hA hlast
  have hmm := HM.out
  unfold opV
  go_enter Try.func11, Try.ntmps11
  go_wp2_with fail
  refine (lent_any x.legs B ca _ hlen HA1.out).mono ?_
  rintro e w2 ⟨A2, c2, rfl, hown, hb2⟩
  have HO2 := Lib.hid hown
  have HB2 := Lib.hid hb2
  have HIN : LegsIn w2 A2 x.legs := legs_of_own hown
  have HIN2 := Lib.hid HIN
  clear hown hb2 HIN
  go_wp2_with fail
  refine (hold_any p c d v vs s x.legs A2 c2 _ HS.out (H1.out.below HB2.out) HLA.out (by omega) HIN2.out).mono ?_
  rintro e w3 ⟨rfl, hP⟩
  have HP := Lib.hid hP
  clear hP
  go_wp2_with fail
  go_ret2
  exact doesP_of (HB1.out.trans (HB2.out.mono HB1.out.size)) HP.out HR.out
set_option maxRecDepth 100000 in
set_option maxHeartbeats 2000000 in
theorem does8 (p c d : Nat) (v : Value) (vs : List Value) (s : Led) (x : OpR) (B : Option Addr) (ca : Nat) (w : World) (hs : Inv s) (h : LedAt w p c d v vs s) (hk : 8 ≤ x.kind % 11) (hk0 : 0 ≤ x.kind) :
    Calls Try.prog 11 #[.pointer (some ⟨p, 0, none⟩), opV x B ca] w (HoldP w p c d v (doL s x)) := by
  have q4 : (w.alloc (.cells #[.int .u8 x.kind, .string x.name, .string x.a, .string x.b, .int .i64 x.n, .int .i64 x.p, .int .i64 x.c, .slice B x.legs.length ca] 26)).cell? ⟨w.heap.size, 4, none⟩ = some (.int .i64 x.n) := World.news_of_block (cs := opCs x B ca) (Go.heap_alloc_new w _) 4 _ rfl
  have q6 : (w.alloc (.cells #[.int .u8 x.kind, .string x.name, .string x.a, .string x.b, .int .i64 x.n, .int .i64 x.p, .int .i64 x.c, .slice B x.legs.length ca] 26)).cell? ⟨w.heap.size, 6, none⟩ = some (.int .i64 x.c) := World.news_of_block (cs := opCs x B ca) (Go.heap_alloc_new w _) 6 _ rfl
  have hb1 : Below w.heap.size w (w.alloc (.cells #[.int .u8 x.kind, .string x.name, .string x.a, .string x.b, .int .i64 x.n, .int .i64 x.p, .int .i64 x.c, .slice B x.legs.length ca] 26)) := (Below.refl _ _).alloc (Nat.le_refl _) _
  have H1 := Lib.hid (h.below hb1)
  have HB1 := Lib.hid hb1
  have HS := Lib.hid hs
  have hm : 8 ≤ Int.tmod x.kind 11 := by rw [Int.tmod_eq_emod_of_nonneg hk0]; exact hk
  have HM := Lib.hid hm
  have hnp : ∀ i ∈ fp p c d v, i ≠ w.heap.size := fun i hi => Nat.ne_of_lt (fp_lt h i hi)
  have HNP := Lib.hid hnp
  have HQ4 := Lib.hid q4
  have HQ6 := Lib.hid q6
  clear q4 q6
  have hr : doL s x = (0, 0, s) := by unfold doL; rw [if_neg (by omega)]; rw [if_neg (by omega)]; rw [if_neg (by omega)]; rw [if_neg (by omega)]; rw [if_neg (by omega)]; rw [if_neg (by omega)]; rw [if_neg (by omega)];
  have HR := Lib.hid hr
  obtain ⟨K, hK⟩ : ∃ K, Int.tmod x.kind 11 = K := ⟨_, rfl⟩
  rw [hK] at hm
  clear hb1 h hs hk hnp hr
  unfold opV
  go_enter Try.func11, Try.ntmps11
  go_wp2_with fail
  go_ret2
  exact doesP_of (err := 0) HB1.out (OpP.same H1.out (Below.refl _ _)) HR.out
/-- What one call leaves and tells. -/
theorem does_any (p c d : Nat) (v : Value) (vs : List Value) (s : Led) (x : OpR) (B : Option Addr) (ca : Nat) (w : World) (hs : Inv s) (h : LedAt w p c d v vs s) (hx : OpWf x) (hlast : s.last ≤ 4611686018427387904) (hlen : x.legs.length ≤ 100000) (hA : LegsIn w B x.legs) :
    Calls Try.prog 11 #[.pointer (some ⟨p, 0, none⟩), opV x B ca] w (HoldP w p c d v (doL s x)) := by
  have hk0 := hx.k0
  rcases (show x.kind % 11 = 0 ∨ x.kind % 11 = 1 ∨ x.kind % 11 = 2 ∨ x.kind % 11 = 3 ∨ x.kind % 11 = 4 ∨ x.kind % 11 = 5 ∨ x.kind % 11 = 6 ∨ x.kind % 11 = 7 ∨ 8 ≤ x.kind % 11 by omega) with hk | hk | hk | hk | hk | hk | hk | hk | hk
  · by_cases he : (mint s x.a x.n).1 = 0
    · exact does0a p c d v vs s x B ca w hs h hk hk0 he
    · exact does0b p c d v vs s x B ca w hs h hk hk0 he
  · by_cases he : (pay s x.a x.b x.n x.c).1 = 0
    · exact does1a p c d v vs s x B ca w hs h hk hk0 he
    · exact does1b p c d v vs s x B ca w hs h hk hk0 he
  · by_cases he : (openCh s x.name x.a x.b x.n x.p x.c).1 = 0
    · exact does2a p c d v vs s x B ca w hs h hk hk0 he
    · exact does2b p c d v vs s x B ca w hs h hk hk0 he
  · exact does3 p c d v vs s x B ca w hs h hk hk0 hlast hlen hA
  · exact does4 p c d v vs s x B ca w hs h hk hk0 hlast hlen hA
  · exact does5 p c d v vs s x B ca w hs h hk hk0
  · exact does6 p c d v vs s x B ca w hs h hk hk0
  · by_cases he : (closeCh s x.name x.c).1 = 0
    · exact does7a p c d v vs s x B ca w hs h hk hk0 he
    · exact does7b p c d v vs s x B ca w hs h hk hk0 he
  · exact does8 p c d v vs s x B ca w hs h hk hk0
end Go.Proofs.Ytmlcojhanimnpaa
