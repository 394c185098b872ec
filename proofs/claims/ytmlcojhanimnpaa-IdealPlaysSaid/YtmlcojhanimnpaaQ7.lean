/- plays of the statements: the calls that both ledgers answer with one number. · plays of the statements: Worth. · A store into a row of the statements' own. · Two legs that are the same, compared. · What is left when the legs lent were written over. · plays of the statements: Hold. · plays of the statements: one call of both ledgers. -/
import Derived.Test.YtmlcojhanimnpaaQ6
import Derived.Test.YtmlcojhanimnpaaJ2
import Derived.Deep.RegionHeld3
import Derived.Laws.StructEq
namespace Go.Proofs.Ytmlcojhanimnpaa
open Go.RowKit

set_option maxRecDepth 100000 in
set_option maxHeartbeats 4000000 in
theorem plays0 (p c d q : Nat) (v va vc vh : Value) (vs us : List Value) (s : Led) (x : OpR) (B : Option Addr) (ca : Nat) (w : World) (hs : Inv s) (hl : LedAt w p c d v vs s) (hm : RLed w q va vc vh us s) (hk : x.kind % 11 = 0) (hk0 : 0 ≤ x.kind) (hxn : x.name.size ≤ reachBytes) (hxa : x.a.size ≤ reachBytes) :
    Calls Try.prog 23 #[.pointer (some ⟨p, 0, none⟩), .pointer (some ⟨q, 0, none⟩), opV x B ca] w fun e w' => e = .returned (.bool true) ∧ BothP w p c d v q va vc vh (doL s x).2.2 w' := by
  have HS := Lib.hid hs
  obtain ⟨R, hR⟩ : ∃ R, mint s x.a x.n = R := ⟨_, rfl⟩
  have hd : (doL s x).2.2 = R.2 := by unfold doL; rw [if_pos hk]; rw [← hR]
  have HCL := Lib.hid (fun W (hW : LedAt W p c d v vs s) => ((by have h1 := mint_any p c d v vs s x.a x.n W HS.out hW; rw [hR] at h1; exact h1) : Calls Try.prog 30 #[.pointer (some ⟨p, 0, none⟩), .string x.a, .int .i64 x.n] W (OpP W p c d v R.1 R.2)))
  have HCR := Lib.hid (fun W (hW : RLed W q va vc vh us s) => ((by have h1 := rmint_any q va vc vh us s x.a x.n W HS.out hxa hW; rw [hR] at h1; exact h1) : Calls Try.prog 47 #[.pointer (some ⟨q, 0, none⟩), .string x.a, .int .i64 x.n] W (ROp W q va vc vh R.1 R.2)))
  rw [hd]
  have hb1 : Below w.heap.size w (w.alloc (.cells #[.int .u8 x.kind, .string x.name, .string x.a, .string x.b, .int .i64 x.n, .int .i64 x.p, .int .i64 x.c, .slice B x.legs.length ca] 26)) := (Below.refl _ _).alloc (Nat.le_refl _) _
  have HB1 := Lib.hid hb1.drew
  have HLD := Lib.hid (hl.below hb1.drew)
  have HMD := Lib.hid (RAt.below hm hb1.drew)
  have HNP := Lib.hid (show ∀ i ∈ fp p c d v, i ≠ w.heap.size from fun i hi => Nat.ne_of_lt (fp_lt hl i hi))
  have HNR := Lib.hid (show ∀ i ∈ fpR q va vc vh, i ≠ w.heap.size from fun i hi => Nat.ne_of_lt (RAt.lts hm i hi))
  have q2 : (w.alloc (.cells #[.int .u8 x.kind, .string x.name, .string x.a, .string x.b, .int .i64 x.n, .int .i64 x.p, .int .i64 x.c, .slice B x.legs.length ca] 26)).cell? ⟨w.heap.size, 2, none⟩ = some (.string x.a) := World.news_of_block (cs := opCs x B ca) (Go.heap_alloc_new w _) 2 _ rfl
  have q4 : (w.alloc (.cells #[.int .u8 x.kind, .string x.name, .string x.a, .string x.b, .int .i64 x.n, .int .i64 x.p, .int .i64 x.c, .slice B x.legs.length ca] 26)).cell? ⟨w.heap.size, 4, none⟩ = some (.int .i64 x.n) := World.news_of_block (cs := opCs x B ca) (Go.heap_alloc_new w _) 4 _ rfl
  have HQ2 := Lib.hid q2
  have HQ4 := Lib.hid q4
  have HM := Lib.hid (show Int.tmod x.kind 11 = 0 by rw [Int.tmod_eq_emod_of_nonneg hk0]; exact hk)
  have hE : (R.1 == R.1) = true := by simp
  clear hs hl hm hR hd hb1 hk hk0 hxn hxa
  have hmm := HM.out
  unfold opV
  go_enter Try.func23, Try.ntmps23
  go_wp2_with fail
  go_region_held3 (fun w' => w'.cell? ⟨w.heap.size, 2, none⟩ = some (.string x.a) ∧ w'.cell? ⟨w.heap.size, 4, none⟩ = some (.int .i64 x.n))
    (first | exact ⟨q2, q4⟩ | exact ⟨r2, r4⟩ | exact ⟨t2, t4⟩)
    (first
    | (go_at_call 30; refine (HCL.out _ HLD.out).mono ?_; rintro e w1 hP1; obtain ⟨he1, hX1⟩ := hP1; subst he1; have hf1 : Fr (fp p c d v) (w.alloc (.cells #[.int .u8 x.kind, .string x.name, .string x.a, .string x.b, .int .i64 x.n, .int .i64 x.p, .int .i64 x.c, .slice B x.legs.length ca] 26)).drew w1 := (by obtain ⟨c', d', v', vs', -, g2, -⟩ := hX1; exact g2); have HX1 := Lib.hid hX1; have hm1 : RLed w1 q va vc vh us s := RAt.led HMD.out HLD.out hf1; have HM1 := Lib.hid hm1; have r2 := hf1.cellKept (fun hi => HNP.out _ hi rfl) HQ2.out; have r4 := hf1.cellKept (fun hi => HNP.out _ hi rfl) HQ4.out; clear hf1 hX1 hm1)
    | (go_at_call 47; refine (HCR.out _ HM1.out).mono ?_; rintro e w2 hP2; obtain ⟨he2, hX2⟩ := hP2; subst he2; have hf2 : Fr (fpR q va vc vh) w1 w2 := (by obtain ⟨va', vc', vh', vs', -, g2, -⟩ := hX2; exact g2); have HX2 := Lib.hid hX2; have t2 := hf2.cellKept (fun hi => HNR.out _ hi rfl) r2; have t4 := hf2.cellKept (fun hi => HNR.out _ hi rfl) r4; clear hf2 hX2))
  all_goals
    go_wp2_with fail
    go_ret
    exact ⟨rfl, BothP.after HB1.out (both_op HLD.out HMD.out (err := R.1) (err2 := R.1) ⟨rfl, HX1.out⟩ ⟨rfl, HX2.out⟩)⟩
set_option maxRecDepth 100000 in
set_option maxHeartbeats 4000000 in
theorem plays1 (p c d q : Nat) (v va vc vh : Value) (vs us : List Value) (s : Led) (x : OpR) (B : Option Addr) (ca : Nat) (w : World) (hs : Inv s) (hl : LedAt w p c d v vs s) (hm : RLed w q va vc vh us s) (hk : x.kind % 11 = 1) (hk0 : 0 ≤ x.kind) (hxn : x.name.size ≤ reachBytes) (hxa : x.a.size ≤ reachBytes) :
    Calls Try.prog 23 #[.pointer (some ⟨p, 0, none⟩), .pointer (some ⟨q, 0, none⟩), opV x B ca] w fun e w' => e = .returned (.bool true) ∧ BothP w p c d v q va vc vh (doL s x).2.2 w' := by
  have HS := Lib.hid hs
  obtain ⟨R, hR⟩ : ∃ R, pay s x.a x.b x.n x.c = R := ⟨_, rfl⟩
  have hd : (doL s x).2.2 = R.2 := by unfold doL; rw [if_neg (by omega), if_pos hk]; rw [← hR]
  have HCL := Lib.hid (fun W (hW : LedAt W p c d v vs s) => ((by have h1 := pay_any p c d v vs s x.a x.b x.n x.c W HS.out hW; rw [hR] at h1; exact h1) : Calls Try.prog 29 #[.pointer (some ⟨p, 0, none⟩), .string x.a, .string x.b, .int .i64 x.n, .int .i64 x.c] W (OpP W p c d v R.1 R.2)))
  have HCR := Lib.hid (fun W (hW : RLed W q va vc vh us s) => ((by have h1 := rpay_any q va vc vh us s x.a x.b x.n x.c W HS.out hW; rw [hR] at h1; exact h1) : Calls Try.prog 48 #[.pointer (some ⟨q, 0, none⟩), .string x.a, .string x.b, .int .i64 x.n, .int .i64 x.c] W (ROp W q va vc vh R.1 R.2)))
  rw [hd]
  have hb1 : Below w.heap.size w (w.alloc (.cells #[.int .u8 x.kind, .string x.name, .string x.a, .string x.b, .int .i64 x.n, .int .i64 x.p, .int .i64 x.c, .slice B x.legs.length ca] 26)) := (Below.refl _ _).alloc (Nat.le_refl _) _
  have HB1 := Lib.hid hb1.drew
  have HLD := Lib.hid (hl.below hb1.drew)
  have HMD := Lib.hid (RAt.below hm hb1.drew)
  have HNP := Lib.hid (show ∀ i ∈ fp p c d v, i ≠ w.heap.size from fun i hi => Nat.ne_of_lt (fp_lt hl i hi))
  have HNR := Lib.hid (show ∀ i ∈ fpR q va vc vh, i ≠ w.heap.size from fun i hi => Nat.ne_of_lt (RAt.lts hm i hi))
  have q2 : (w.alloc (.cells #[.int .u8 x.kind, .string x.name, .string x.a, .string x.b, .int .i64 x.n, .int .i64 x.p, .int .i64 x.c, .slice B x.legs.length ca] 26)).cell? ⟨w.heap.size, 2, none⟩ = some (.string x.a) := World.news_of_block (cs := opCs x B ca) (Go.heap_alloc_new w _) 2 _ rfl
  have q3 : (w.alloc (.cells #[.int .u8 x.kind, .string x.name, .string x.a, .string x.b, .int .i64 x.n, .int .i64 x.p, .int .i64 x.c, .slice B x.legs.length ca] 26)).cell? ⟨w.heap.size, 3, none⟩ = some (.string x.b) := World.news_of_block (cs := opCs x B ca) (Go.heap_alloc_new w _) 3 _ rfl
  have q4 : (w.alloc (.cells #[.int .u8 x.kind, .string x.name, .string x.a, .string x.b, .int .i64 x.n, .int .i64 x.p, .int .i64 x.c, .slice B x.legs.length ca] 26)).cell? ⟨w.heap.size, 4, none⟩ = some (.int .i64 x.n) := World.news_of_block (cs := opCs x B ca) (Go.heap_alloc_new w _) 4 _ rfl
  have q6 : (w.alloc (.cells #[.int .u8 x.kind, .string x.name, .string x.a, .string x.b, .int .i64 x.n, .int .i64 x.p, .int .i64 x.c, .slice B x.legs.length ca] 26)).cell? ⟨w.heap.size, 6, none⟩ = some (.int .i64 x.c) := World.news_of_block (cs := opCs x B ca) (Go.heap_alloc_new w _) 6 _ rfl
  have HQ2 := Lib.hid q2
  have HQ3 := Lib.hid q3
  have HQ4 := Lib.hid q4
  have HQ6 := Lib.hid q6
  have HM := Lib.hid (show Int.tmod x.kind 11 = 1 by rw [Int.tmod_eq_emod_of_nonneg hk0]; exact hk)
  have hE : (R.1 == R.1) = true := by simp
  clear hs hl hm hR hd hb1 hk hk0 hxn hxa
  have hmm := HM.out
  unfold opV
  go_enter Try.func23, Try.ntmps23
  go_wp2_with fail
  go_region_held3 (fun w' => w'.cell? ⟨w.heap.size, 2, none⟩ = some (.string x.a) ∧ w'.cell? ⟨w.heap.size, 3, none⟩ = some (.string x.b) ∧ w'.cell? ⟨w.heap.size, 4, none⟩ = some (.int .i64 x.n) ∧ w'.cell? ⟨w.heap.size, 6, none⟩ = some (.int .i64 x.c))
    (first | exact ⟨q2, q3, q4, q6⟩ | exact ⟨r2, r3, r4, r6⟩ | exact ⟨t2, t3, t4, t6⟩)
    (first
    | (go_at_call 29; refine (HCL.out _ HLD.out).mono ?_; rintro e w1 hP1; obtain ⟨he1, hX1⟩ := hP1; subst he1; have hf1 : Fr (fp p c d v) (w.alloc (.cells #[.int .u8 x.kind, .string x.name, .string x.a, .string x.b, .int .i64 x.n, .int .i64 x.p, .int .i64 x.c, .slice B x.legs.length ca] 26)).drew w1 := (by obtain ⟨c', d', v', vs', -, g2, -⟩ := hX1; exact g2); have HX1 := Lib.hid hX1; have hm1 : RLed w1 q va vc vh us s := RAt.led HMD.out HLD.out hf1; have HM1 := Lib.hid hm1; have r2 := hf1.cellKept (fun hi => HNP.out _ hi rfl) HQ2.out; have r3 := hf1.cellKept (fun hi => HNP.out _ hi rfl) HQ3.out; have r4 := hf1.cellKept (fun hi => HNP.out _ hi rfl) HQ4.out; have r6 := hf1.cellKept (fun hi => HNP.out _ hi rfl) HQ6.out; clear hf1 hX1 hm1)
    | (go_at_call 48; refine (HCR.out _ HM1.out).mono ?_; rintro e w2 hP2; obtain ⟨he2, hX2⟩ := hP2; subst he2; have hf2 : Fr (fpR q va vc vh) w1 w2 := (by obtain ⟨va', vc', vh', vs', -, g2, -⟩ := hX2; exact g2); have HX2 := Lib.hid hX2; have t2 := hf2.cellKept (fun hi => HNR.out _ hi rfl) r2; have t3 := hf2.cellKept (fun hi => HNR.out _ hi rfl) r3; have t4 := hf2.cellKept (fun hi => HNR.out _ hi rfl) r4; have t6 := hf2.cellKept (fun hi => HNR.out _ hi rfl) r6; clear hf2 hX2))
  all_goals
    go_wp2_with fail
    go_ret
    exact ⟨rfl, BothP.after HB1.out (both_op HLD.out HMD.out (err := R.1) (err2 := R.1) ⟨rfl, HX1.out⟩ ⟨rfl, HX2.out⟩)⟩
set_option maxRecDepth 100000 in
set_option maxHeartbeats 4000000 in
theorem plays2 (p c d q : Nat) (v va vc vh : Value) (vs us : List Value) (s : Led) (x : OpR) (B : Option Addr) (ca : Nat) (w : World) (hs : Inv s) (hl : LedAt w p c d v vs s) (hm : RLed w q va vc vh us s) (hk : x.kind % 11 = 2) (hk0 : 0 ≤ x.kind) (hxn : x.name.size ≤ reachBytes) (hxa : x.a.size ≤ reachBytes) :
    Calls Try.prog 23 #[.pointer (some ⟨p, 0, none⟩), .pointer (some ⟨q, 0, none⟩), opV x B ca] w fun e w' => e = .returned (.bool true) ∧ BothP w p c d v q va vc vh (doL s x).2.2 w' := by
  have HS := Lib.hid hs
  obtain ⟨R, hR⟩ : ∃ R, openCh s x.name x.a x.b x.n x.p x.c = R := ⟨_, rfl⟩
  have hd : (doL s x).2.2 = R.2 := by unfold doL; rw [if_neg (by omega), if_neg (by omega), if_pos hk]; rw [← hR]
  have HCL := Lib.hid (fun W (hW : LedAt W p c d v vs s) => ((by have h1 := open_any p c d v vs s x.name x.a x.b x.n x.p x.c W HS.out hW; rw [hR] at h1; exact h1) : Calls Try.prog 31 #[.pointer (some ⟨p, 0, none⟩), .string x.name, .string x.a, .string x.b, .int .i64 x.n, .int .i64 x.p, .int .i64 x.c] W (OpP W p c d v R.1 R.2)))
  have HCR := Lib.hid (fun W (hW : RLed W q va vc vh us s) => ((by have h1 := ropen_any q va vc vh us s x.name x.a x.b x.n x.p x.c W HS.out hxn hW; rw [hR] at h1; exact h1) : Calls Try.prog 49 #[.pointer (some ⟨q, 0, none⟩), .string x.name, .string x.a, .string x.b, .int .i64 x.n, .int .i64 x.p, .int .i64 x.c] W (ROp W q va vc vh R.1 R.2)))
  rw [hd]
  have hb1 : Below w.heap.size w (w.alloc (.cells #[.int .u8 x.kind, .string x.name, .string x.a, .string x.b, .int .i64 x.n, .int .i64 x.p, .int .i64 x.c, .slice B x.legs.length ca] 26)) := (Below.refl _ _).alloc (Nat.le_refl _) _
  have HB1 := Lib.hid hb1.drew
  have HLD := Lib.hid (hl.below hb1.drew)
  have HMD := Lib.hid (RAt.below hm hb1.drew)
  have HNP := Lib.hid (show ∀ i ∈ fp p c d v, i ≠ w.heap.size from fun i hi => Nat.ne_of_lt (fp_lt hl i hi))
  have HNR := Lib.hid (show ∀ i ∈ fpR q va vc vh, i ≠ w.heap.size from fun i hi => Nat.ne_of_lt (RAt.lts hm i hi))
  have q1 : (w.alloc (.cells #[.int .u8 x.kind, .string x.name, .string x.a, .string x.b, .int .i64 x.n, .int .i64 x.p, .int .i64 x.c, .slice B x.legs.length ca] 26)).cell? ⟨w.heap.size, 1, none⟩ = some (.string x.name) := World.news_of_block (cs := opCs x B ca) (Go.heap_alloc_new w _) 1 _ rfl
  have q2 : (w.alloc (.cells #[.int .u8 x.kind, .string x.name, .string x.a, .string x.b, .int .i64 x.n, .int .i64 x.p, .int .i64 x.c, .slice B x.legs.length ca] 26)).cell? ⟨w.heap.size, 2, none⟩ = some (.string x.a) := World.news_of_block (cs := opCs x B ca) (Go.heap_alloc_new w _) 2 _ rfl
  have q3 : (w.alloc (.cells #[.int .u8 x.kind, .string x.name, .string x.a, .string x.b, .int .i64 x.n, .int .i64 x.p, .int .i64 x.c, .slice B x.legs.length ca] 26)).cell? ⟨w.heap.size, 3, none⟩ = some (.string x.b) := World.news_of_block (cs := opCs x B ca) (Go.heap_alloc_new w _) 3 _ rfl
  have q4 : (w.alloc (.cells #[.int .u8 x.kind, .string x.name, .string x.a, .string x.b, .int .i64 x.n, .int .i64 x.p, .int .i64 x.c, .slice B x.legs.length ca] 26)).cell? ⟨w.heap.size, 4, none⟩ = some (.int .i64 x.n) := World.news_of_block (cs := opCs x B ca) (Go.heap_alloc_new w _) 4 _ rfl
  have q5 : (w.alloc (.cells #[.int .u8 x.kind, .string x.name, .string x.a, .string x.b, .int .i64 x.n, .int .i64 x.p, .int .i64 x.c, .slice B x.legs.length ca] 26)).cell? ⟨w.heap.size, 5, none⟩ = some (.int .i64 x.p) := World.news_of_block (cs := opCs x B ca) (Go.heap_alloc_new w _) 5 _ rfl
  have q6 : (w.alloc (.cells #[.int .u8 x.kind, .string x.name, .string x.a, .string x.b, .int .i64 x.n, .int .i64 x.p, .int .i64 x.c, .slice B x.legs.length ca] 26)).cell? ⟨w.heap.size, 6, none⟩ = some (.int .i64 x.c) := World.news_of_block (cs := opCs x B ca) (Go.heap_alloc_new w _) 6 _ rfl
  have HQ1 := Lib.hid q1
  have HQ2 := Lib.hid q2
  have HQ3 := Lib.hid q3
  have HQ4 := Lib.hid q4
  have HQ5 := Lib.hid q5
  have HQ6 := Lib.hid q6
  have HM := Lib.hid (show Int.tmod x.kind 11 = 2 by rw [Int.tmod_eq_emod_of_nonneg hk0]; exact hk)
  have hE : (R.1 == R.1) = true := by simp
  clear hs hl hm hR hd hb1 hk hk0 hxn hxa
  have hmm := HM.out
  unfold opV
  go_enter Try.func23, Try.ntmps23
  go_wp2_with fail
  go_region_held3 (fun w' => w'.cell? ⟨w.heap.size, 1, none⟩ = some (.string x.name) ∧ w'.cell? ⟨w.heap.size, 2, none⟩ = some (.string x.a) ∧ w'.cell? ⟨w.heap.size, 3, none⟩ = some (.string x.b) ∧ w'.cell? ⟨w.heap.size, 4, none⟩ = some (.int .i64 x.n) ∧ w'.cell? ⟨w.heap.size, 5, none⟩ = some (.int .i64 x.p) ∧ w'.cell? ⟨w.heap.size, 6, none⟩ = some (.int .i64 x.c))
    (first | exact ⟨q1, q2, q3, q4, q5, q6⟩ | exact ⟨r1, r2, r3, r4, r5, r6⟩ | exact ⟨t1, t2, t3, t4, t5, t6⟩)
    (first
    | (go_at_call 31; refine (HCL.out _ HLD.out).mono ?_; rintro e w1 hP1; obtain ⟨he1, hX1⟩ := hP1; subst he1; have hf1 : Fr (fp p c d v) (w.alloc (.cells #[.int .u8 x.kind, .string x.name, .string x.a, .string x.b, .int .i64 x.n, .int .i64 x.p, .int .i64 x.c, .slice B x.legs.length ca] 26)).drew w1 := (by obtain ⟨c', d', v', vs', -, g2, -⟩ := hX1; exact g2); have HX1 := Lib.hid hX1; have hm1 : RLed w1 q va vc vh us s := RAt.led HMD.out HLD.out hf1; have HM1 := Lib.hid hm1; have r1 := hf1.cellKept (fun hi => HNP.out _ hi rfl) HQ1.out; have r2 := hf1.cellKept (fun hi => HNP.out _ hi rfl) HQ2.out; have r3 := hf1.cellKept (fun hi => HNP.out _ hi rfl) HQ3.out; have r4 := hf1.cellKept (fun hi => HNP.out _ hi rfl) HQ4.out; have r5 := hf1.cellKept (fun hi => HNP.out _ hi rfl) HQ5.out; have r6 := hf1.cellKept (fun hi => HNP.out _ hi rfl) HQ6.out; clear hf1 hX1 hm1)
    | (go_at_call 49; refine (HCR.out _ HM1.out).mono ?_; rintro e w2 hP2; obtain ⟨he2, hX2⟩ := hP2; subst he2; have hf2 : Fr (fpR q va vc vh) w1 w2 := (by obtain ⟨va', vc', vh', vs', -, g2, -⟩ := hX2; exact g2); have HX2 := Lib.hid hX2; have t1 := hf2.cellKept (fun hi => HNR.out _ hi rfl) r1; have t2 := hf2.cellKept (fun hi => HNR.out _ hi rfl) r2; have t3 := hf2.cellKept (fun hi => HNR.out _ hi rfl) r3; have t4 := hf2.cellKept (fun hi => HNR.out _ hi rfl) r4; have t5 := hf2.cellKept (fun hi => HNR.out _ hi rfl) r5; have t6 := hf2.cellKept (fun hi => HNR.out _ hi rfl) r6; clear hf2 hX2))
  all_goals
    go_wp2_with fail
    go_ret
    exact ⟨rfl, BothP.after HB1.out (both_op HLD.out HMD.out (err := R.1) (err2 := R.1) ⟨rfl, HX1.out⟩ ⟨rfl, HX2.out⟩)⟩
set_option maxRecDepth 100000 in
set_option maxHeartbeats 4000000 in
theorem plays5 (p c d q : Nat) (v va vc vh : Value) (vs us : List Value) (s : Led) (x : OpR) (B : Option Addr) (ca : Nat) (w : World) (hs : Inv s) (hl : LedAt w p c d v vs s) (hm : RLed w q va vc vh us s) (hk : x.kind % 11 = 5) (hk0 : 0 ≤ x.kind) (hxn : x.name.size ≤ reachBytes) (hxa : x.a.size ≤ reachBytes) :
    Calls Try.prog 23 #[.pointer (some ⟨p, 0, none⟩), .pointer (some ⟨q, 0, none⟩), opV x B ca] w fun e w' => e = .returned (.bool true) ∧ BothP w p c d v q va vc vh (doL s x).2.2 w' := by
  have HS := Lib.hid hs
  obtain ⟨R, hR⟩ : ∃ R, endH true s x.n = R := ⟨_, rfl⟩
  have hd : (doL s x).2.2 = R.2 := by unfold doL; rw [if_neg (by omega), if_neg (by omega), if_neg (by omega), if_neg (by omega), if_pos hk]; rw [← hR]
  have HCL := Lib.hid (fun W (hW : LedAt W p c d v vs s) => ((by have h1 := settle_any p c d v vs s x.n W HS.out hW; rw [hR] at h1; exact h1) : Calls Try.prog 15 #[.pointer (some ⟨p, 0, none⟩), .int .i64 x.n] W (OpP W p c d v R.1 R.2)))
  have HCR := Lib.hid (fun W (hW : RLed W q va vc vh us s) => ((by have h1 := rsettle_any q va vc vh us s x.n W HS.out hW; rw [hR] at h1; exact h1) : Calls Try.prog 50 #[.pointer (some ⟨q, 0, none⟩), .int .i64 x.n] W (ROp W q va vc vh R.1 R.2)))
  rw [hd]
  have hb1 : Below w.heap.size w (w.alloc (.cells #[.int .u8 x.kind, .string x.name, .string x.a, .string x.b, .int .i64 x.n, .int .i64 x.p, .int .i64 x.c, .slice B x.legs.length ca] 26)) := (Below.refl _ _).alloc (Nat.le_refl _) _
  have HB1 := Lib.hid hb1.drew
  have HLD := Lib.hid (hl.below hb1.drew)
  have HMD := Lib.hid (RAt.below hm hb1.drew)
  have HNP := Lib.hid (show ∀ i ∈ fp p c d v, i ≠ w.heap.size from fun i hi => Nat.ne_of_lt (fp_lt hl i hi))
  have HNR := Lib.hid (show ∀ i ∈ fpR q va vc vh, i ≠ w.heap.size from fun i hi => Nat.ne_of_lt (RAt.lts hm i hi))
  have q4 : (w.alloc (.cells #[.int .u8 x.kind, .string x.name, .string x.a, .string x.b, .int .i64 x.n, .int .i64 x.p, .int .i64 x.c, .slice B x.legs.length ca] 26)).cell? ⟨w.heap.size, 4, none⟩ = some (.int .i64 x.n) := World.news_of_block (cs := opCs x B ca) (Go.heap_alloc_new w _) 4 _ rfl
  have HQ4 := Lib.hid q4
  have HM := Lib.hid (show Int.tmod x.kind 11 = 5 by rw [Int.tmod_eq_emod_of_nonneg hk0]; exact hk)
  have hE : (R.1 == R.1) = true := by simp
  clear hs hl hm hR hd hb1 hk hk0 hxn hxa
  have hmm := HM.out
  unfold opV
  go_enter Try.func23, Try.ntmps23
  go_wp2_with fail
  go_region_held3 (fun w' => w'.cell? ⟨w.heap.size, 4, none⟩ = some (.int .i64 x.n))
    (first | exact q4 | exact r4 | exact t4)
    (first
    | (go_at_call 15; refine (HCL.out _ HLD.out).mono ?_; rintro e w1 hP1; obtain ⟨he1, hX1⟩ := hP1; subst he1; have hf1 : Fr (fp p c d v) (w.alloc (.cells #[.int .u8 x.kind, .string x.name, .string x.a, .string x.b, .int .i64 x.n, .int .i64 x.p, .int .i64 x.c, .slice B x.legs.length ca] 26)).drew w1 := (by obtain ⟨c', d', v', vs', -, g2, -⟩ := hX1; exact g2); have HX1 := Lib.hid hX1; have hm1 : RLed w1 q va vc vh us s := RAt.led HMD.out HLD.out hf1; have HM1 := Lib.hid hm1; have r4 := hf1.cellKept (fun hi => HNP.out _ hi rfl) HQ4.out; clear hf1 hX1 hm1)
    | (go_at_call 50; refine (HCR.out _ HM1.out).mono ?_; rintro e w2 hP2; obtain ⟨he2, hX2⟩ := hP2; subst he2; have hf2 : Fr (fpR q va vc vh) w1 w2 := (by obtain ⟨va', vc', vh', vs', -, g2, -⟩ := hX2; exact g2); have HX2 := Lib.hid hX2; have t4 := hf2.cellKept (fun hi => HNR.out _ hi rfl) r4; clear hf2 hX2))
  all_goals
    go_wp2_with fail
    go_ret
    exact ⟨rfl, BothP.after HB1.out (both_op HLD.out HMD.out (err := R.1) (err2 := R.1) ⟨rfl, HX1.out⟩ ⟨rfl, HX2.out⟩)⟩
set_option maxRecDepth 100000 in
set_option maxHeartbeats 4000000 in
theorem plays6 (p c d q : Nat) (v va vc vh : Value) (vs us : List Value) (s : Led) (x : OpR) (B : Option Addr) (ca : Nat) (w : World) (hs : Inv s) (hl : LedAt w p c d v vs s) (hm : RLed w q va vc vh us s) (hk : x.kind % 11 = 6) (hk0 : 0 ≤ x.kind) (hxn : x.name.size ≤ reachBytes) (hxa : x.a.size ≤ reachBytes) :
    Calls Try.prog 23 #[.pointer (some ⟨p, 0, none⟩), .pointer (some ⟨q, 0, none⟩), opV x B ca] w fun e w' => e = .returned (.bool true) ∧ BothP w p c d v q va vc vh (doL s x).2.2 w' := by
  have HS := Lib.hid hs
  obtain ⟨R, hR⟩ : ∃ R, endH false s x.n = R := ⟨_, rfl⟩
  have hd : (doL s x).2.2 = R.2 := by unfold doL; rw [if_neg (by omega), if_neg (by omega), if_neg (by omega), if_neg (by omega), if_neg (by omega), if_pos hk]; rw [← hR]
  have HCL := Lib.hid (fun W (hW : LedAt W p c d v vs s) => ((by have h1 := fail_any p c d v vs s x.n W HS.out hW; rw [hR] at h1; exact h1) : Calls Try.prog 25 #[.pointer (some ⟨p, 0, none⟩), .int .i64 x.n] W (OpP W p c d v R.1 R.2)))
  have HCR := Lib.hid (fun W (hW : RLed W q va vc vh us s) => ((by have h1 := rfail_any q va vc vh us s x.n W HS.out hW; rw [hR] at h1; exact h1) : Calls Try.prog 51 #[.pointer (some ⟨q, 0, none⟩), .int .i64 x.n] W (ROp W q va vc vh R.1 R.2)))
  rw [hd]
  have hb1 : Below w.heap.size w (w.alloc (.cells #[.int .u8 x.kind, .string x.name, .string x.a, .string x.b, .int .i64 x.n, .int .i64 x.p, .int .i64 x.c, .slice B x.legs.length ca] 26)) := (Below.refl _ _).alloc (Nat.le_refl _) _
  have HB1 := Lib.hid hb1.drew
  have HLD := Lib.hid (hl.below hb1.drew)
  have HMD := Lib.hid (RAt.below hm hb1.drew)
  have HNP := Lib.hid (show ∀ i ∈ fp p c d v, i ≠ w.heap.size from fun i hi => Nat.ne_of_lt (fp_lt hl i hi))
  have HNR := Lib.hid (show ∀ i ∈ fpR q va vc vh, i ≠ w.heap.size from fun i hi => Nat.ne_of_lt (RAt.lts hm i hi))
  have q4 : (w.alloc (.cells #[.int .u8 x.kind, .string x.name, .string x.a, .string x.b, .int .i64 x.n, .int .i64 x.p, .int .i64 x.c, .slice B x.legs.length ca] 26)).cell? ⟨w.heap.size, 4, none⟩ = some (.int .i64 x.n) := World.news_of_block (cs := opCs x B ca) (Go.heap_alloc_new w _) 4 _ rfl
  have HQ4 := Lib.hid q4
  have HM := Lib.hid (show Int.tmod x.kind 11 = 6 by rw [Int.tmod_eq_emod_of_nonneg hk0]; exact hk)
  have hE : (R.1 == R.1) = true := by simp
  clear hs hl hm hR hd hb1 hk hk0 hxn hxa
  have hmm := HM.out
  unfold opV
  go_enter Try.func23, Try.ntmps23
  go_wp2_with fail
  go_region_held3 (fun w' => w'.cell? ⟨w.heap.size, 4, none⟩ = some (.int .i64 x.n))
    (first | exact q4 | exact r4 | exact t4)
    (first
    | (go_at_call 25; refine (HCL.out _ HLD.out).mono ?_; rintro e w1 hP1; obtain ⟨he1, hX1⟩ := hP1; subst he1; have hf1 : Fr (fp p c d v) (w.alloc (.cells #[.int .u8 x.kind, .string x.name, .string x.a, .string x.b, .int .i64 x.n, .int .i64 x.p, .int .i64 x.c, .slice B x.legs.length ca] 26)).drew w1 := (by obtain ⟨c', d', v', vs', -, g2, -⟩ := hX1; exact g2); have HX1 := Lib.hid hX1; have hm1 : RLed w1 q va vc vh us s := RAt.led HMD.out HLD.out hf1; have HM1 := Lib.hid hm1; have r4 := hf1.cellKept (fun hi => HNP.out _ hi rfl) HQ4.out; clear hf1 hX1 hm1)
    | (go_at_call 51; refine (HCR.out _ HM1.out).mono ?_; rintro e w2 hP2; obtain ⟨he2, hX2⟩ := hP2; subst he2; have hf2 : Fr (fpR q va vc vh) w1 w2 := (by obtain ⟨va', vc', vh', vs', -, g2, -⟩ := hX2; exact g2); have HX2 := Lib.hid hX2; have t4 := hf2.cellKept (fun hi => HNR.out _ hi rfl) r4; clear hf2 hX2))
  all_goals
    go_wp2_with fail
    go_ret
    exact ⟨rfl, BothP.after HB1.out (both_op HLD.out HMD.out (err := R.1) (err2 := R.1) ⟨rfl, HX1.out⟩ ⟨rfl, HX2.out⟩)⟩
set_option maxRecDepth 100000 in
set_option maxHeartbeats 4000000 in
theorem plays7 (p c d q : Nat) (v va vc vh : Value) (vs us : List Value) (s : Led) (x : OpR) (B : Option Addr) (ca : Nat) (w : World) (hs : Inv s) (hl : LedAt w p c d v vs s) (hm : RLed w q va vc vh us s) (hk : x.kind % 11 = 7) (hk0 : 0 ≤ x.kind) (hxn : x.name.size ≤ reachBytes) (hxa : x.a.size ≤ reachBytes) :
    Calls Try.prog 23 #[.pointer (some ⟨p, 0, none⟩), .pointer (some ⟨q, 0, none⟩), opV x B ca] w fun e w' => e = .returned (.bool true) ∧ BothP w p c d v q va vc vh (doL s x).2.2 w' := by
  have HS := Lib.hid hs
  obtain ⟨R, hR⟩ : ∃ R, closeCh s x.name x.c = R := ⟨_, rfl⟩
  have hd : (doL s x).2.2 = R.2 := by unfold doL; rw [if_neg (by omega), if_neg (by omega), if_neg (by omega), if_neg (by omega), if_neg (by omega), if_neg (by omega), if_pos hk]; rw [← hR]
  have HCL := Lib.hid (fun W (hW : LedAt W p c d v vs s) => ((by have h1 := close_any p c d v vs s x.name x.c W HS.out hW; rw [hR] at h1; exact h1) : Calls Try.prog 28 #[.pointer (some ⟨p, 0, none⟩), .string x.name, .int .i64 x.c] W (OpP W p c d v R.1 R.2)))
  have HCR := Lib.hid (fun W (hW : RLed W q va vc vh us s) => ((by have h1 := rclose_any q va vc vh us s x.name x.c W HS.out hW; rw [hR] at h1; exact h1) : Calls Try.prog 52 #[.pointer (some ⟨q, 0, none⟩), .string x.name, .int .i64 x.c] W (ROp W q va vc vh R.1 R.2)))
  rw [hd]
  have hb1 : Below w.heap.size w (w.alloc (.cells #[.int .u8 x.kind, .string x.name, .string x.a, .string x.b, .int .i64 x.n, .int .i64 x.p, .int .i64 x.c, .slice B x.legs.length ca] 26)) := (Below.refl _ _).alloc (Nat.le_refl _) _
  have HB1 := Lib.hid hb1.drew
  have HLD := Lib.hid (hl.below hb1.drew)
  have HMD := Lib.hid (RAt.below hm hb1.drew)
  have HNP := Lib.hid (show ∀ i ∈ fp p c d v, i ≠ w.heap.size from fun i hi => Nat.ne_of_lt (fp_lt hl i hi))
  have HNR := Lib.hid (show ∀ i ∈ fpR q va vc vh, i ≠ w.heap.size from fun i hi => Nat.ne_of_lt (RAt.lts hm i hi))
  have q1 : (w.alloc (.cells #[.int .u8 x.kind, .string x.name, .string x.a, .string x.b, .int .i64 x.n, .int .i64 x.p, .int .i64 x.c, .slice B x.legs.length ca] 26)).cell? ⟨w.heap.size, 1, none⟩ = some (.string x.name) := World.news_of_block (cs := opCs x B ca) (Go.heap_alloc_new w _) 1 _ rfl
  have q6 : (w.alloc (.cells #[.int .u8 x.kind, .string x.name, .string x.a, .string x.b, .int .i64 x.n, .int .i64 x.p, .int .i64 x.c, .slice B x.legs.length ca] 26)).cell? ⟨w.heap.size, 6, none⟩ = some (.int .i64 x.c) := World.news_of_block (cs := opCs x B ca) (Go.heap_alloc_new w _) 6 _ rfl
  have HQ1 := Lib.hid q1
  have HQ6 := Lib.hid q6
  have HM := Lib.hid (show Int.tmod x.kind 11 = 7 by rw [Int.tmod_eq_emod_of_nonneg hk0]; exact hk)
  have hE : (R.1 == R.1) = true := by simp
  clear hs hl hm hR hd hb1 hk hk0 hxn hxa
  have hmm := HM.out
  unfold opV
  go_enter Try.func23, Try.ntmps23
  go_wp2_with fail
  go_region_held3 (fun w' => w'.cell? ⟨w.heap.size, 1, none⟩ = some (.string x.name) ∧ w'.cell? ⟨w.heap.size, 6, none⟩ = some (.int .i64 x.c))
    (first | exact ⟨q1, q6⟩ | exact ⟨r1, r6⟩ | exact ⟨t1, t6⟩)
    (first
    | (go_at_call 28; refine (HCL.out _ HLD.out).mono ?_; rintro e w1 hP1; obtain ⟨he1, hX1⟩ := hP1; subst he1; have hf1 : Fr (fp p c d v) (w.alloc (.cells #[.int .u8 x.kind, .string x.name, .string x.a, .string x.b, .int .i64 x.n, .int .i64 x.p, .int .i64 x.c, .slice B x.legs.length ca] 26)).drew w1 := (by obtain ⟨c', d', v', vs', -, g2, -⟩ := hX1; exact g2); have HX1 := Lib.hid hX1; have hm1 : RLed w1 q va vc vh us s := RAt.led HMD.out HLD.out hf1; have HM1 := Lib.hid hm1; have r1 := hf1.cellKept (fun hi => HNP.out _ hi rfl) HQ1.out; have r6 := hf1.cellKept (fun hi => HNP.out _ hi rfl) HQ6.out; clear hf1 hX1 hm1)
    | (go_at_call 52; refine (HCR.out _ HM1.out).mono ?_; rintro e w2 hP2; obtain ⟨he2, hX2⟩ := hP2; subst he2; have hf2 : Fr (fpR q va vc vh) w1 w2 := (by obtain ⟨va', vc', vh', vs', -, g2, -⟩ := hX2; exact g2); have HX2 := Lib.hid hX2; have t1 := hf2.cellKept (fun hi => HNR.out _ hi rfl) r1; have t6 := hf2.cellKept (fun hi => HNR.out _ hi rfl) r6; clear hf2 hX2))
  all_goals
    go_wp2_with fail
    go_ret
    exact ⟨rfl, BothP.after HB1.out (both_op HLD.out HMD.out (err := R.1) (err2 := R.1) ⟨rfl, HX1.out⟩ ⟨rfl, HX2.out⟩)⟩
end Go.Proofs.Ytmlcojhanimnpaa

namespace Go.Proofs.Ytmlcojhanimnpaa
open Go.RowKit

theorem worthV_two (s : Led) (q : ByteArray) : ∃ (n : Int) (b : Bool), worthV s q = .tuple #[.int .i64 n, .bool b] := by
  unfold worthV
  split
  · exact ⟨_, _, rfl⟩
  · exact ⟨_, _, rfl⟩
set_option maxRecDepth 100000 in
set_option maxHeartbeats 4000000 in
theorem plays8 (p c d q : Nat) (v va vc vh : Value) (vs us : List Value) (s : Led) (x : OpR) (B : Option Addr) (ca : Nat) (w : World) (hs : Inv s) (hl : LedAt w p c d v vs s) (hm : RLed w q va vc vh us s) (hk : x.kind % 11 = 8) (hk0 : 0 ≤ x.kind) :
    Calls Try.prog 23 #[.pointer (some ⟨p, 0, none⟩), .pointer (some ⟨q, 0, none⟩), opV x B ca] w fun e w' => e = .returned (.bool true) ∧ BothP w p c d v q va vc vh (doL s x).2.2 w' := by
  have hd : (doL s x).2.2 = s := by unfold doL; rw [if_neg (by omega), if_neg (by omega), if_neg (by omega), if_neg (by omega), if_neg (by omega), if_neg (by omega), if_neg (by omega)]
  obtain ⟨n, b, hV⟩ := worthV_two s x.a
  have hb1 : Below w.heap.size w (w.alloc (.cells #[.int .u8 x.kind, .string x.name, .string x.a, .string x.b, .int .i64 x.n, .int .i64 x.p, .int .i64 x.c, .slice B x.legs.length ca] 26)) := (Below.refl _ _).alloc (Nat.le_refl _) _
  have hcl := worth_any p c d v vs s x.a _ hs (hl.below hb1)
  have hcr := fun W h => rworth_any q va vc vh us s x.a W hs h
  rw [hV] at hcl
  simp only [hV] at hcr
  have HCL := Lib.hid hcl
  have HCR := Lib.hid hcr
  have HL := Lib.hid hl
  have HM1 := Lib.hid (RAt.below hm hb1)
  have HM0 := Lib.hid hm
  have HB1 := Lib.hid hb1
  have q2 : (w.alloc (.cells #[.int .u8 x.kind, .string x.name, .string x.a, .string x.b, .int .i64 x.n, .int .i64 x.p, .int .i64 x.c, .slice B x.legs.length ca] 26)).cell? ⟨w.heap.size, 2, none⟩ = some (.string x.a) := World.news_of_block (cs := opCs x B ca) (Go.heap_alloc_new w _) 2 _ rfl
  have HM := Lib.hid (show Int.tmod x.kind 11 = 8 by rw [Int.tmod_eq_emod_of_nonneg hk0]; exact hk)
  rw [hd]
  clear hs hl hm hk hk0 hd hV hcl hcr hb1
  have hmm := HM.out
  unfold opV
  go_enter Try.func23, Try.ntmps23
  go_wp2_with fail
  refine HCL.out.mono ?_
  rintro e w1 ⟨rfl, hb⟩
  have HMW := Lib.hid (RAt.below HM1.out hb)
  have HBW := Lib.hid (HB1.out.trans (hb.mono HB1.out.size))
  have r2 := cell_below hb q2
  clear hb q2
  go_wp2_with fail
  refine (HCR.out _ HMW.out).mono ?_
  rintro e w2 ⟨rfl, rfl⟩
  go_wp2_with fail
  go_ret
  refine ⟨?_, both_same HL.out HM0.out HBW.out⟩
  first | rfl | simp
end Go.Proofs.Ytmlcojhanimnpaa

namespace Go.Proofs.Ytmlcojhanimnpaa
open Go.RowKit

theorem row_store {α : Type} (f : α → List Value) (m : Nat) (hf : ∀ x, (f x).length = m) (hm : 0 < m) {w : World} {base : Nat} {E : TypeId} {v : Value} {l : List α} (h : w.ownsRow base E m v l.length (l.flatMap f)) {i : Nat} (hi : i < l.length) :
    ∃ g cap, v = .slice (some ⟨g, 0, none⟩) l.length cap ∧ l.length ≤ cap ∧ base ≤ g ∧ g < w.heap.size ∧ w.cell? ((⟨g, 0, none⟩ : Addr).add (i * m)) = (f l[i])[0]? ∧ (∀ j, 0 < j → j < m → w.cell? ⟨((⟨g, 0, none⟩ : Addr).add (i * m)).block, ((⟨g, 0, none⟩ : Addr).add (i * m)).off + j, none⟩ = (f l[i])[j]?) ∧
      (∀ j, 0 < j → w.frozen? ⟨((⟨g, 0, none⟩ : Addr).add (i * m)).block, ((⟨g, 0, none⟩ : Addr).add (i * m)).off + j, none⟩ = false) ∧
      ∀ (k j : Nat) (u : Value) (x' : α), 0 < j → j < m → f x' = (f l[i]).set j u →
        ((w.drewN k).setCell ⟨((⟨g, 0, none⟩ : Addr).add (i * m)).block, ((⟨g, 0, none⟩ : Addr).add (i * m)).off + j, none⟩ u).ownsRow base E m v l.length ((l.set i x').flatMap f) ∧ Fr [g] w ((w.drewN k).setCell ⟨((⟨g, 0, none⟩ : Addr).add (i * m)).block, ((⟨g, 0, none⟩ : Addr).add (i * m)).off + j, none⟩ u) := by
  have ho := h
  have hlen : (l.flatMap f).length = l.length * m := flat_len f m hf l
  have hmul : (i + 1) * m ≤ l.length * m := Nat.mul_le_mul_right m (by omega)
  have hadd : (i + 1) * m = i * m + m := by rw [Nat.add_mul, Nat.one_mul]
  rcases h.2 with ⟨hv, hn⟩ | ⟨g, cap, cur, hv, hg, hh, -⟩
  · rw [hn] at hi; cases hi
  · obtain ⟨A', c', hv', hle, -⟩ := own_shape ho
    rw [hv] at hv'
    injection hv' with h1 h2 h3
    subst h3
    have hk := (World.ownsRow.lt ho g (by rw [hv]; rfl))
    refine ⟨g, cap, hv, hle, hk.1, hk.2, ?_, fun j hj hjm => ?_, fun j hj => ?_, fun k j u x' hj hjm hx => ?_⟩
    · subst hv
      rw [Go.WideShapes.add_plain, Nat.zero_add, ho.cellAt _ (by omega)]
      exact flat_at f m hf l i hi 0 hm
    · subst hv
      rw [field_addr _ _ _ hj, ho.cellAt _ (by omega)]
      exact flat_at f m hf l i hi j hjm
    · subst hv
      rw [field_addr _ _ _ hj]
      exact ho.frozenAt _
    · subst hv
      rw [field_addr _ _ _ hj]
      have h1 := (World.ownsRow.stored (w := w.drewN k) (own_drewN ho k) (i * m + j) u).1
      rw [flat_set f m hf hjm l i hi hx] at h1
      exact ⟨h1, put_fr w k g _ _ (by simp)⟩
end Go.Proofs.Ytmlcojhanimnpaa

namespace Go.Proofs.Ytmlcojhanimnpaa
open Go.RowKit
@[go_sem] theorem eqLeg (x : Leg) (w : World) : (Op.equalIn 10000 45 (.agg #[.string x.ch, .string x.src, .int .i64 x.amt]) (.agg #[.string x.ch, .string x.src, .int .i64 x.amt])).run Try.prog w = .ok true w := by
  have u1 := Try.underlying9
  have u2 := Try.underlying2
  have hS : Try.prog.underlying 45 = some (.struct (Try.prog.fieldsOf 45)) := by kernel_rfl
  rw [run_equalIn_agg w 9999 _ _ _ hS (by kernel_rfl)]
  simp only [Program.fieldsOf, Try.underlying45]
  go_simp
  try simp
end Go.Proofs.Ytmlcojhanimnpaa

namespace Go.Proofs.Ytmlcojhanimnpaa
open Go.RowKit

theorem legBlocks_lt {w : World} : ∀ {l : List HoldR} {vs : List Value}, HoldVs w l vs → ∀ g ∈ legBlocks vs, g < w.heap.size
  | [], vs, h, g, hg => by
    have h' : vs = [] := h
    rw [h'] at hg; cases hg
  | x :: r, vs, h, g, hg => by
    obtain ⟨A, c, rest, rfl, ho, hr⟩ := h
    unfold legBlocks at hg
    rw [List.mem_filterMap] at hg
    obtain ⟨u, hu, he⟩ := hg
    rcases List.mem_cons.1 hu with rfl | hu
    · cases he
    · rcases List.mem_cons.1 hu with rfl | hu
      · exact (World.ownsRow.lt ho g he).2
      · exact legBlocks_lt hr g (by unfold legBlocks; rw [List.mem_filterMap]; exact ⟨u, hu, he⟩)
/-- A ledger stays what it is where one block is written to that is none of its own. -/
theorem LedAt.but {w w' : World} {p c d : Nat} {v : Value} {vs : List Value} {s : Led} {G : List Nat} (h : LedAt w p c d v vs s) (hf : Fr G w w') (h1 : ∀ g ∈ G, g ∉ fp p c d v) (h2 : ∀ g ∈ G, g ∉ legBlocks vs) : LedAt w' p c d v vs s := by
  have hb : ∀ i ∈ fp p c d v, w'.heap[i]? = w.heap[i]? := fun i hi => hf.block i (fp_lt h i hi) fun hg => h1 i hg hi
  exact ⟨(hb p (by simp [fp])).trans h.blk, h.mc.block (hb c (by simp [fp])), h.md.block (hb d (by simp [fp])), h.ne, ownsRow_block h.own fun g hg => hb g (by simp [fp, hg]), h.hv.kept2 fun g hg => hf.block g (legBlocks_lt h.hv g hg) fun hg2 => h2 g hg2 hg⟩
end Go.Proofs.Ytmlcojhanimnpaa

namespace Go.Proofs.Ytmlcojhanimnpaa
open Go.RowKit

theorem cells_fr {F : List Nat} {w w' : World} {B : Option Addr} {xs : List Value} (h : Cells w B xs) (hf : Fr F w w') (hB : 0 < xs.length → ∀ ad, B = some ad → ad.block ∉ F) : Cells w' B xs := fun hn => by
  obtain ⟨ad, he, hc⟩ := h hn
  exact ⟨ad, he, fun j u hj => hf.cellKept (by rw [add_block]; exact hB hn ad he) (hc j u hj)⟩
theorem leg_not_fp {w : World} {p c d base n : Nat} {v u : Value} {vs xs : List Value} {s : Led} (hl : LedAt w p c d v vs s) (ho : w.ownsRow base 45 3 u n xs) {g : Nat} (hg : u.ownBlock = some g) : g ∉ fp p c d v := fun h => by
  obtain ⟨cur, hc⟩ := row_kind ho hg
  rcases fp_kind hl g h with ⟨es, k, h1⟩ | ⟨cs', h1⟩ | ⟨cs', h1⟩
  · rw [hc] at h1; cases h1
  · rw [hc] at h1
    injection h1 with h1
    injection h1 with h1 h2
    exact absurd h2 (by decide)
  · rw [hc] at h1
    injection h1 with h1
    injection h1 with h1 h2
    exact absurd h2 (by decide)
theorem leg_not_fpR {w : World} {q base n2 : Nat} {va vc vh u : Value} {us xs : List Value} {A : List (ByteArray × Int)} {C : List Chan} {H : List HoldR} {n : Int} (hm : RAt w q va vc vh us A C H n) (ho : w.ownsRow base 45 3 u n2 xs) {g : Nat} (hg : u.ownBlock = some g) : g ∉ fpR q va vc vh := fun h => by
  obtain ⟨cur, hc⟩ := row_kind ho hg
  obtain ⟨cs, T, hc2, hT⟩ := fpR_kind hm g h
  rw [hc] at hc2
  injection hc2 with h1
  injection h1 with h1 h2
  subst h2
  rcases hT with h | h | h | h <;> exact absurd h (by decide)
theorem leg_inj {x : Leg} {m : Int} : legC { x with amt := m } = (legC x).set 2 (.int .i64 m) := rfl
set_option maxRecDepth 100000 in
set_option maxHeartbeats 8000000 in
theorem playsH (p c d q : Nat) (v va vc vh : Value) (vs us : List Value) (s : Led) (x : OpR) (B : Option Addr) (ca : Nat) (w : World) (hs : Inv s) (hl : LedAt w p c d v vs s) (hm : RLed w q va vc vh us s) (hlast : s.last ≤ 4611686018427387904) (hlen : x.legs.length ≤ 100000) (hB : LegsIn w B x.legs) (hBF : 0 < (legsC x.legs).length → ∀ ad, B = some ad → ad.block ∉ fp p c d v ∧ ad.block ∉ fpR q va vc vh ∧ ad.block < w.heap.size) (hk : x.kind % 11 = 3 ∨ x.kind % 11 = 4) (hk0 : 0 ≤ x.kind) :
    Calls Try.prog 23 #[.pointer (some ⟨p, 0, none⟩), .pointer (some ⟨q, 0, none⟩), opV x B ca] w fun e w' => e = .returned (.bool true) ∧ BothP w p c d v q va vc vh (doL s x).2.2 w' := by
  obtain ⟨R, hR⟩ : ∃ R, hold s x.legs = R := ⟨_, rfl⟩
  have hd : (doL s x).2.2 = R.2.2 := by unfold doL; rw [if_neg (by omega), if_neg (by omega), if_neg (by omega), if_pos hk, hR]
  have hl0 := hs.l0
  obtain ⟨W, hW⟩ : ∃ W, w.alloc (.cells #[.int .u8 x.kind, .string x.name, .string x.a, .string x.b, .int .i64 x.n, .int .i64 x.p, .int .i64 x.c, .slice B x.legs.length ca] 26) = W := ⟨_, rfl⟩
  have hb1 : Below w.heap.size w W := by rw [← hW]; exact (Below.refl _ _).alloc (Nat.le_refl _) _
  have q7 : W.cell? ⟨w.heap.size, 7, none⟩ = some (.slice B x.legs.length ca) := by rw [← hW]; exact World.news_of_block (cs := opCs x B ca) (Go.heap_alloc_new w _) 7 _ rfl
  have q0 : W.cell? ⟨w.heap.size, 0, none⟩ = some (.int .u8 x.kind) := by rw [← hW]; exact World.news_of_block (cs := opCs x B ca) (Go.heap_alloc_new w _) 0 _ rfl
  have hNB : ∀ i ∈ fp p c d v, i ≠ w.heap.size := fun i hi => Nat.ne_of_lt (fp_lt hl i hi)
  have hNR : ∀ i ∈ fpR q va vc vh, i ≠ w.heap.size := fun i hi => Nat.ne_of_lt (RAt.lts hm i hi)
  have HQ7 := Lib.hid q7
  have HS := Lib.hid hs
  have HL := Lib.hid (hl.below hb1)
  have HM0 := Lib.hid (RAt.below hm hb1)
  have HB := Lib.hid (Cells.below hB hb1)
  have HB1 := Lib.hid hb1
  have HR := Lib.hid hR
  have HM := Lib.hid (show Int.tmod x.kind 11 = 3 ∨ Int.tmod x.kind 11 = 4 by rw [Int.tmod_eq_emod_of_nonneg hk0]; exact hk)
  rw [hd]
  clear hs hl hm hB hk hk0 hd hb1 hR
  unfold opV
  rcases HM.out with hmm | hmm
  all_goals
    clear HM
    go_enter Try.func23, Try.ntmps23
    go_wp2_with fail
    refine (lent_any x.legs B ca _ hlen HB.out).mono ?_
    rintro e w1 ⟨Ai, ci, rfl, howni, hbi⟩
    have HOI := Lib.hid howni
    have HBI := Lib.hid hbi
    have r7 := cell_below hbi q7
    have HL1 := Lib.hid (HL.out.below hbi)
    have HM1 := Lib.hid (RAt.below HM0.out hbi)
    clear howni hbi q7 q0 hW
    go_wp2_with fail
    refine (hold_any2 p c d v vs s x.legs Ai ci _ HS.out HL1.out hlast (by omega) (legs_of_own HOI.out)).mono ?_
    rw [HR.out]
    rintro e w2 ⟨rfl, hX1⟩
    have hf1 : Fr (fp p c d v) w1 w2 := by obtain ⟨c', d', v', vs', -, g2, -⟩ := hX1; exact g2
    have HF1 := Lib.hid hf1
    have HX1 := Lib.hid hX1
    have HM2 := Lib.hid (RAt.led HM1.out HL1.out hf1)
    have s7 : w2.cell? ⟨w.heap.size, 7, none⟩ = some (.slice B x.legs.length ca) := hf1.cellKept (fun hi => hNB _ hi rfl) r7
    clear hf1 hX1 r7
    go_wp2_with fail
    refine (refs_any x.legs B ca _ hlen (cells_fr (Cells.below HB.out HBI.out) HF1.out fun hn ad he => (hBF hn ad he).1)).mono ?_
    rintro e w3 ⟨Ar, cr, rfl, hownr, hbr⟩
    have HOR := Lib.hid hownr
    have HBR := Lib.hid hbr
    have HM3 := Lib.hid (RAt.below HM2.out hbr)
    have t7 := cell_below hbr s7
    clear hownr hbr s7
    go_wp2_with fail
    have hAr : LegsIn w3 (Ar) x.legs := by
      obtain ⟨A2, c2, hv2, -, hc2⟩ := own_shape HOR.out
      injection hv2 with h4 h5 h6
      subst h4
      exact hc2
    refine (rhold_any q va vc vh us s x.legs Ar cr _ HS.out HM3.out hlast hl0 hlen hAr).mono ?_
    rw [HR.out]
    rintro e w4 ⟨rfl, hX2⟩
    have hf2 : Fr (fpR q va vc vh) w3 w4 := by obtain ⟨-, va', vc', vh', vs', -, g2, -⟩ := hX2; exact g2
    have HF2 := Lib.hid hf2
    have HX2 := Lib.hid hX2
    have u7 : w4.cell? ⟨w.heap.size, 7, none⟩ = some (.slice B x.legs.length ca) := hf2.cellKept (fun hi => hNR _ hi rfl) t7
    clear hf2 hX2 t7 hAr
    go_wp2_with fail
    have hO2 : w2.ownsRow W.heap.size 45 3 (.slice Ai x.legs.length ci) x.legs.length (legsC x.legs) := ownsRow_block HOI.out fun g hg => HF1.out.block g (World.ownsRow.lt HOI.out g hg).2 (leg_not_fp HL1.out HOI.out hg)
    have hO3 := own_below hO2 HBR.out
    have hO4 : w4.ownsRow W.heap.size 45 3 (.slice Ai x.legs.length ci) x.legs.length (legsC x.legs) := ownsRow_block hO3 fun g hg => HF2.out.block g (World.ownsRow.lt hO3 g hg).2 (leg_not_fpR HM3.out hO3 hg)
    have HO4 := Lib.hid hO4
    have hB4 : LegsIn w4 B x.legs := cells_fr (Cells.below (cells_fr (Cells.below HB.out HBI.out) HF1.out fun hn ad he => (hBF hn ad he).1) HBR.out) HF2.out fun hn ad he => (hBF hn ad he).2.1
    have HB4 := Lib.hid hB4
    clear hO2 hO3 hO4 hB4
    go_loopw [16] (fun i wr => ∃ (k : Nat) (l' : List Leg), k ≤ x.legs.length ∧ i = .int .i64 k ∧ l'.length = x.legs.length ∧ (∀ j, k ≤ j → l'[j]? = x.legs[j]?) ∧ wr.ownsRow W.heap.size 45 3 (.slice Ai x.legs.length ci) l'.length (legsC l') ∧ Fr (Value.slice Ai x.legs.length ci).ownBlock.toList w4 wr) (fun i _ => x.legs.length - (intOf i).toNat)
    case atStart => exact ⟨0, x.legs, Nat.zero_le _, rfl, rfl, fun _ _ => rfl, HO4.out, Fr.refl _ _⟩
    case round =>
      obtain ⟨k, l', hk, rfl, hl', hsame, hown, hfr⟩ := hrel
      by_cases hlt : k < x.legs.length
      · have hil : k < l'.length := by omega
        obtain ⟨Y, hY⟩ : ∃ Y, x.legs[k] = Y := ⟨_, rfl⟩
        have hYl : l'[k] = Y := by
          have h1 := hsame k (Nat.le_refl _)
          rw [List.getElem?_eq_getElem hil, List.getElem?_eq_getElem hlt, hY] at h1
          exact Option.some.inj h1
        obtain ⟨g, cap, hv, -, hbg, hlg, c0, cj, fz, hput⟩ := row_store legC 3 (fun _ => rfl) (by decide) (show wr.ownsRow W.heap.size 45 3 _ l'.length (l'.flatMap legC) from hown) hil
        injection hv with hv1 hv2 hv3
        subst hv1
        rw [hYl] at c0 hput
        have c1 := cj 1 (by decide) (by decide)
        have c2 := cj 2 (by decide) (by decide)
        rw [hYl] at c1 c2
        have c0' : wr.cell? ((⟨g, 0, none⟩ : Addr).add (k * 3)) = some (.string Y.ch) := c0
        have c1' : wr.cell? ⟨((⟨g, 0, none⟩ : Addr).add (k * 3)).block, ((⟨g, 0, none⟩ : Addr).add (k * 3)).off + 1, none⟩ = some (.string Y.src) := c1
        have c2' : wr.cell? ⟨((⟨g, 0, none⟩ : Addr).add (k * 3)).block, ((⟨g, 0, none⟩ : Addr).add (k * 3)).off + 2, none⟩ = some (.int .i64 Y.amt) := c2
        have f2' := fz 2 (by decide)
        have hszw : w.heap.size ≤ W.heap.size := HB1.out.size
        have w7 : wr.cell? ⟨w.heap.size, 7, none⟩ = some (.slice B x.legs.length ca) := hfr.cellKept (by simp [Value.ownBlock]; have := World.block_lt_of_cell? W _ (show W.cell? ⟨w.heap.size, 7, none⟩ = _ from HQ7.out); simp at this; omega) u7
        obtain ⟨lb, rfl, m0, m1, m2⟩ := LegsIn.look (show LegsIn wr B x.legs from cells_fr HB4.out hfr fun hn ad he hh => by have := (hBF hn ad he).2.2; simp [Value.ownBlock] at hh; omega) hlt
        rw [hY] at m0 m1 m2
        have HPUT := Lib.hid hput
        have HFR := Lib.hid hfr
        have HSAME := Lib.hid hsame
        clear hput hfr hsame hown c0 c1 c2 cj fz hv2 hv3 hYl u7 hY
        generalize hla : (⟨g, 0, none⟩ : Addr) = la at HPUT HFR HO4 HOI c0' c1' c2' f2' ⊢
        go_wp2_with fail
        go_quiet (fail)
        go_wp2_with fail
        go_roundw
        case rel =>
          subst hla
          obtain ⟨h1, h2⟩ := HPUT.out nq 2 (.int .i64 (-9)) { Y with amt := -9 } (by decide) (by decide) rfl
          refine ⟨k + 1, l'.set k { Y with amt := -9 }, by omega, by go_num, by rw [List.length_set]; exact hl', fun j hj => ?_, ?_, ?_⟩
          · rw [List.getElem?_set_ne (by omega)]; exact HSAME.out j (by omega)
          · rw [List.length_set]; exact h1
          · exact HFR.out.trans h2 fun i hi _ => by simpa [Value.ownBlock] using hi
        case measure => simp [intOf]; omega
      · have hfin : BothP w p c d v q va vc vh R.2.2 wr := by
          obtain ⟨c', d', v', vs', L2, -, N1, LB⟩ := HX1.out
          obtain ⟨-, va', vc', vh', us', M4, F2, N2⟩ := HX2.out
          have L3 := L2.below HBR.out
          have L4 := L3.rled HM3.out F2
          have hG : ∀ g ∈ (Value.slice Ai x.legs.length ci).ownBlock.toList, (Value.slice Ai x.legs.length ci).ownBlock = some g := fun g hg => by simpa using hg
          have hlt1 := World.ownsRow.lt HOI.out
          have hs1 := HB1.out.size
          have hs2 := HBI.out.size
          have hs3 := HF1.out.size
          have hs4 := HBR.out.size
          have L5 := L4.but hfr (fun g hg => leg_not_fp L4 HO4.out (hG g hg)) (fun g hg hb => by
            have := hlt1 g (hG g hg)
            rcases LB g hb with h | h
            · have := legBlocks_lt HL.out.hv g h; omega
            · omega)
          have M5 : RLed wr q va' vc' vh' us' R.2.2 := RAt.kept M4 (fun i hi => hfr.block i (RAt.lts M4 i hi) fun hg => leg_not_fpR M4 HO4.out (hG i hg) hi) (fun g cur hg => hfr.block g (lt_of_block hg) fun h => by
            obtain ⟨cur', hc⟩ := row_kind HO4.out (hG g h)
            rw [hg] at hc
            injection hc with hc
            injection hc with h1 h2
            exact absurd h2 (by decide))
          have s1 : Fr (fpB p c d v q va vc vh) w w1 := Fr.below (HB1.out.trans (HBI.out.mono hs1))
          have s2 := s1.trans HF1.out (fun i hi _ => List.mem_append.2 (.inl hi))
          have s3 := s2.trans (Fr.below (F := []) HBR.out) (fun i hi _ => by cases hi)
          have s4 := s3.trans F2 (fun i hi _ => List.mem_append.2 (.inr hi))
          refine ⟨c', d', v', vs', va', vc', vh', us', L5, M5, s4.trans hfr (fun i hi hlt => absurd (hlt1 i (hG i hi)).1 (by omega)), fun i hi => ?_⟩
          rcases List.mem_append.1 hi with hi | hi
          · rcases N1 i hi with h | h
            · exact .inl (List.mem_append.2 (.inl h))
            · exact .inr (by omega)
          · rcases N2 i hi with h | h
            · exact .inl (List.mem_append.2 (.inr h))
            · exact .inr (by omega)
        have HFIN := Lib.hid hfin
        clear hfin hown hfr hsame
        go_wp2_with fail
        go_ret
        exact ⟨by first | rfl | simp, HFIN.out⟩
end Go.Proofs.Ytmlcojhanimnpaa

namespace Go.Proofs.Ytmlcojhanimnpaa
open Go.RowKit

theorem plays_any (p c d q : Nat) (v va vc vh : Value) (vs us : List Value) (s : Led) (x : OpR) (B : Option Addr) (ca : Nat) (w : World) (hs : Inv s) (hl : LedAt w p c d v vs s) (hm : RLed w q va vc vh us s) (hlast : s.last ≤ 4611686018427387904) (hlen : x.legs.length ≤ 100000) (hB : LegsIn w B x.legs) (hBF : 0 < (legsC x.legs).length → ∀ ad, B = some ad → ad.block ∉ fp p c d v ∧ ad.block ∉ fpR q va vc vh ∧ ad.block < w.heap.size)
    (hk0 : 0 ≤ x.kind) (hk9 : x.kind % 11 ≠ 9) (hk10 : x.kind % 11 ≠ 10) (hxn : x.name.size ≤ reachBytes) (hxa : x.a.size ≤ reachBytes) :
    Calls Try.prog 23 #[.pointer (some ⟨p, 0, none⟩), .pointer (some ⟨q, 0, none⟩), opV x B ca] w fun e w' => e = .returned (.bool true) ∧ BothP w p c d v q va vc vh (doL s x).2.2 w' := by
  by_cases h0 : x.kind % 11 = 0
  · exact plays0 p c d q v va vc vh vs us s x B ca w hs hl hm h0 hk0 hxn hxa
  by_cases h1 : x.kind % 11 = 1
  · exact plays1 p c d q v va vc vh vs us s x B ca w hs hl hm h1 hk0 hxn hxa
  by_cases h2 : x.kind % 11 = 2
  · exact plays2 p c d q v va vc vh vs us s x B ca w hs hl hm h2 hk0 hxn hxa
  by_cases h5 : x.kind % 11 = 5
  · exact plays5 p c d q v va vc vh vs us s x B ca w hs hl hm h5 hk0 hxn hxa
  by_cases h6 : x.kind % 11 = 6
  · exact plays6 p c d q v va vc vh vs us s x B ca w hs hl hm h6 hk0 hxn hxa
  by_cases h7 : x.kind % 11 = 7
  · exact plays7 p c d q v va vc vh vs us s x B ca w hs hl hm h7 hk0 hxn hxa
  by_cases h8 : x.kind % 11 = 8
  · exact plays8 p c d q v va vc vh vs us s x B ca w hs hl hm h8 hk0
  exact playsH p c d q v va vc vh vs us s x B ca w hs hl hm hlast hlen hB hBF (by omega) hk0
end Go.Proofs.Ytmlcojhanimnpaa
