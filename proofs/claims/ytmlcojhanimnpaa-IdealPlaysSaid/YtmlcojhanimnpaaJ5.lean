/- sides, begun and works (of the statements). -/
import Derived.Test.YtmlcojhanimnpaaJ4
namespace Go.Proofs.Ytmlcojhanimnpaa
open Go.RowKit

theorem sideOf_hit {s : Led} (hs : Inv s) {c : Chan} (hc : c ∈ chs s) (q : ByteArray) : sideOf s.chans c.name q = (c.a == q || c.b == q) := by
  unfold sideOf
  rw [chs_named hs hc]
theorem sideOf_miss {s : Led} (hs : Inv s) {ch : ByteArray} (h : ∀ c ∈ chs s, c.name ≠ ch) (q : ByteArray) : sideOf s.chans ch q = false := by
  unfold sideOf
  cases hm : mget s.chans ch with
  | none => rfl
  | some c => exact absurd (hs.ch _ _ hm).name (h c (chs_mem s hm))
set_option maxRecDepth 100000 in
set_option maxHeartbeats 4000000 in
theorem sides_any (s : Led) (A : Option Addr) (c : Nat) (name q : ByteArray) (w : World) (hs : Inv s) (hA : Cells w A ((chs s).flatMap chC)) :
    Calls Try.prog 19 #[.slice A (chs s).length c, .string name, .string q] w fun e w' => e = .returned (.bool (sideOf s.chans name q)) ∧ w = w' := by
  have HA := Lib.hid hA
  have HS := Lib.hid hs
  have hlc := chs_len s
  have hk2 := hs.lc
  have hC1 : (chs s).length ≤ 256 := by omega
  obtain ⟨R, hR⟩ : ∃ R, sideOf s.chans name q = R := ⟨_, rfl⟩
  rw [hR]
  have HR := Lib.hid hR
  clear hA hs hlc hk2 hR
  go_enter Try.func19, Try.ntmps19
  go_wp2_with fail
  go_loop [7] (fun i => ∃ k : Nat, k ≤ (chs s).length ∧ i = .int .i64 k ∧ ∀ j (hj : j < (chs s).length), j < k → (chs s)[j].name ≠ name) (fun i => (chs s).length - (intOf i).toNat)
  case atStart => exact ⟨0, Nat.zero_le _, rfl, fun j _ h => by omega⟩
  case round =>
    obtain ⟨k, hk, rfl, hall⟩ := hrel
    have HALL := Lib.hid hall
    clear hall
    by_cases hlt : k < (chs s).length
    · obtain ⟨ad, rfl, d0, d1, d2, -, -, -⟩ := ch_look HA.out hlt
      have hmem := List.getElem_mem hlt
      obtain ⟨X, hX⟩ : ∃ X, (chs s)[k] = X := ⟨_, rfl⟩
      rw [hX] at d0 d1 d2 hmem
      have HX := Lib.hid hX
      have HM := Lib.hid hmem
      clear hX hmem
      by_cases hn : X.name = name
      · have he := tl_t hn
        have hr : R = (X.a == q || X.b == q) := by rw [← HR.out, ← hn]; exact sideOf_hit HS.out HM.out q
        by_cases ha : X.a = q
        · have he2 := tl_t ha
          have hr2 : R = true := by rw [hr, (ch_beq _ _).2 ha]; rfl
          subst hr2
          clear hn hr ha
          go_wp2_with fail
          go_ret
          exact ⟨rfl, rfl⟩
        · have he2 := tl_f ha
          by_cases hb : X.b = q
          · have he3 := tl_t hb
            have hr2 : R = true := by rw [hr, (ch_beq _ _).2 hb, Bool.or_true]
            subst hr2
            clear hn hr ha hb
            go_wp2_with fail
            go_ret
            exact ⟨rfl, rfl⟩
          · have he3 := tl_f hb
            have hr2 : R = false := by rw [hr, (ch_bne _ _).2 ha, (ch_bne _ _).2 hb]; rfl
            subst hr2
            clear hn hr ha hb
            go_wp2_with fail
            go_ret
            exact ⟨rfl, rfl⟩
      · have he := tl_f hn
        have HNE := Lib.hid hn
        clear hn
        go_wp2_with fail
        go_round
        case rel =>
          refine ⟨k + 1, by omega, by go_num, fun j hj hjk => ?_⟩
          rcases Nat.lt_or_ge j k with h | h
          · exact HALL.out j hj h
          · obtain rfl : j = k := by omega
            rw [HX.out]; exact HNE.out
        case measure => simp [intOf]; omega
    · have hr2 : R = false := by
        rw [← HR.out]
        refine sideOf_miss HS.out (fun c hc => ?_) q
        obtain ⟨j, hj, rfl⟩ := List.getElem_of_mem hc
        exact HALL.out j hj (by omega)
      subst hr2
      go_wp2_with fail
      go_ret
      exact ⟨rfl, rfl⟩
/-- A ledger whose blocks are all from base on. -/
def LedO (base : Nat) (w : World) (p : Nat) (s : Led) : Prop := ∃ c d v vs, LedAt w p c d v vs s ∧ ∀ i ∈ fp p c d v, base ≤ i
theorem OpP.own {base : Nat} {w w' : World} {p c d : Nat} {v : Value} {err : Int} {s' : Led} {e : Ending} (h : ∀ i ∈ fp p c d v, base ≤ i) (hb : base ≤ w.heap.size) (hp : OpP w p c d v err s' e w') : e = .returned (.int .i64 err) ∧ LedO base w' p s' ∧ Below base w w' := by
  obtain ⟨he, c', d', v', vs', h1, h2, h3⟩ := hp
  exact ⟨he, ⟨c', d', v', vs', h1, fun i hi => by rcases h3 i hi with h4 | h4; exact h i h4; omega⟩, h2.toBelowOf hb h⟩
theorem LedO.below {base : Nat} {w w' : World} {p : Nat} {s : Led} (h : LedO base w p s) (hb : Below w.heap.size w w') : LedO base w' p s := by
  obtain ⟨c, d, v, vs, h1, h2⟩ := h
  exact ⟨c, d, v, vs, h1.below hb, h2⟩
theorem LedO.mono {base base' : Nat} {w : World} {p : Nat} {s : Led} (h : LedO base w p s) (hb : base' ≤ base) : LedO base' w p s := by
  obtain ⟨c, d, v, vs, h1, h2⟩ := h
  exact ⟨c, d, v, vs, h1, fun i hi => Nat.le_trans hb (h2 i hi)⟩
theorem LedO.of_new {w w' : World} {e : Ending} (h : NewP w e w') : ∃ p, e = .returned (.pointer (some ⟨p, 0, none⟩)) ∧ LedO w.heap.size w' p led0 ∧ Below w.heap.size w w' := by
  obtain ⟨p, c, d, rfl, h1, h2, h3, h4, h5⟩ := h
  refine ⟨p, rfl, ⟨c, d, _, _, h1, fun i hi => ?_⟩, h5⟩
  unfold fp at hi
  simp only [List.mem_cons, Option.mem_toList] at hi
  rcases hi with rfl | rfl | rfl | hi
  · exact h2
  · exact h3
  · exact h4
  · cases hi
theorem LedO.of_copy {w w' : World} {s : Led} {e : Ending} (h : CopyLP w s e w') : ∃ p, e = .returned (.pointer (some ⟨p, 0, none⟩)) ∧ LedO w.heap.size w' p s ∧ Below w.heap.size w w' := by
  obtain ⟨p, c, d, v, vs, rfl, h1, h2, h3⟩ := h
  exact ⟨p, rfl, ⟨c, d, v, vs, h1, h2⟩, h3⟩
/-- The calls at a ledger of the call's own: what each answers and leaves. -/
def OpO (base : Nat) (w : World) (p : Nat) (err : Int) (s' : Led) (e : Ending) (w' : World) : Prop := e = .returned (.int .i64 err) ∧ LedO base w' p s' ∧ Below base w w'
section
variable {base : Nat} {w : World} {p : Nat} {s : Led}
theorem mintO (hs : Inv s) (h : LedO base w p s) (hb : base ≤ w.heap.size) (name : ByteArray) (n : Int) : Calls Try.prog 30 #[.pointer (some ⟨p, 0, none⟩), .string name, .int .i64 n] w (OpO base w p (mint s name n).1 (mint s name n).2) := by
  obtain ⟨c, d, v, vs, h1, h2⟩ := h
  exact (mint_any p c d v vs s name n w hs h1).mono fun e w' hp => hp.own h2 hb
theorem payO (hs : Inv s) (h : LedO base w p s) (hb : base ≤ w.heap.size) (x y : ByteArray) (n k : Int) : Calls Try.prog 29 #[.pointer (some ⟨p, 0, none⟩), .string x, .string y, .int .i64 n, .int .i64 k] w (OpO base w p (pay s x y n k).1 (pay s x y n k).2) := by
  obtain ⟨c, d, v, vs, h1, h2⟩ := h
  exact (pay_any p c d v vs s x y n k w hs h1).mono fun e w' hp => hp.own h2 hb
theorem openO (hs : Inv s) (h : LedO base w p s) (hb : base ≤ w.heap.size) (name x y : ByteArray) (n m k : Int) : Calls Try.prog 31 #[.pointer (some ⟨p, 0, none⟩), .string name, .string x, .string y, .int .i64 n, .int .i64 m, .int .i64 k] w (OpO base w p (openCh s name x y n m k).1 (openCh s name x y n m k).2) := by
  obtain ⟨c, d, v, vs, h1, h2⟩ := h
  exact (open_any p c d v vs s name x y n m k w hs h1).mono fun e w' hp => hp.own h2 hb
theorem closeO (hs : Inv s) (h : LedO base w p s) (hb : base ≤ w.heap.size) (name : ByteArray) (k : Int) : Calls Try.prog 28 #[.pointer (some ⟨p, 0, none⟩), .string name, .int .i64 k] w (OpO base w p (closeCh s name k).1 (closeCh s name k).2) := by
  obtain ⟨c, d, v, vs, h1, h2⟩ := h
  exact (close_any p c d v vs s name k w hs h1).mono fun e w' hp => hp.own h2 hb
theorem settleO (hs : Inv s) (h : LedO base w p s) (hb : base ≤ w.heap.size) (id : Int) : Calls Try.prog 15 #[.pointer (some ⟨p, 0, none⟩), .int .i64 id] w (OpO base w p (endH true s id).1 (endH true s id).2) := by
  obtain ⟨c, d, v, vs, h1, h2⟩ := h
  exact (settle_any p c d v vs s id w hs h1).mono fun e w' hp => hp.own h2 hb
theorem failO (hs : Inv s) (h : LedO base w p s) (hb : base ≤ w.heap.size) (id : Int) : Calls Try.prog 25 #[.pointer (some ⟨p, 0, none⟩), .int .i64 id] w (OpO base w p (endH false s id).1 (endH false s id).2) := by
  obtain ⟨c, d, v, vs, h1, h2⟩ := h
  exact (fail_any p c d v vs s id w hs h1).mono fun e w' hp => hp.own h2 hb
/-- A call that answers with two numbers. -/
def TwoO (base : Nat) (w : World) (p : Nat) (r : Int × Int × Led) (e : Ending) (w' : World) : Prop := e = .returned (.tuple #[.int .i64 r.1, .int .i64 r.2.1]) ∧ LedO base w' p r.2.2 ∧ Below base w w'
theorem holdO (hs : Inv s) (h : LedO base w p s) (hb : base ≤ w.heap.size) (hl : s.last ≤ 4611686018427387904) (legs : List Leg) (A : Option Addr) (ca : Nat) (hlen : legs.length ≤ 140737488355328) (hA : LegsIn w A legs) :
    Calls Try.prog 13 #[.pointer (some ⟨p, 0, none⟩), .slice A legs.length ca] w (TwoO base w p (hold s legs)) := by
  obtain ⟨c, d, v, vs, h1, h2⟩ := h
  exact (hold_any p c d v vs s legs A ca w hs h1 hl hlen hA).mono fun e w' hp => ⟨hp.1, (hp.2.own h2 hb).2⟩
theorem doesO (hs : Inv s) (h : LedO base w p s) (hb : base ≤ w.heap.size) (x : OpR) (B : Option Addr) (ca : Nat) (hx : OpWf x) (hlast : s.last ≤ 4611686018427387904) (hlen : x.legs.length ≤ 100000) (hA : LegsIn w B x.legs) :
    Calls Try.prog 11 #[.pointer (some ⟨p, 0, none⟩), opV x B ca] w (TwoO base w p (doL s x)) := by
  obtain ⟨c, d, v, vs, h1, h2⟩ := h
  exact (does_any p c d v vs s x B ca w hs h1 hx hlast hlen hA).mono fun e w' hp => ⟨hp.1, (hp.2.own h2 hb).2⟩
theorem worthO (hs : Inv s) (h : LedO base w p s) (q : ByteArray) : Calls Try.prog 18 #[.pointer (some ⟨p, 0, none⟩), .string q] w fun e w' => e = .returned (.int .i64 (worth1 s q)) ∧ Below w.heap.size w w' := by
  obtain ⟨c, d, v, vs, h1, h2⟩ := h
  exact worthL_any p c d v vs s q w hs h1
theorem totO (hs : Inv s) (h : LedO base w p s) : Calls Try.prog 20 #[.pointer (some ⟨p, 0, none⟩)] w fun e w' => e = .returned (.int .i64 (total s)) ∧ Below w.heap.size w w' := by
  obtain ⟨c, d, v, vs, h1, h2⟩ := h
  exact tot_any p c d v vs s w hs h1
theorem wholeO (hs : Inv s) (hn : Named s) (h : LedO base w p s) : Calls Try.prog 21 #[.pointer (some ⟨p, 0, none⟩)] w fun e w' => e = .returned (.bool true) ∧ Below w.heap.size w w' := by
  obtain ⟨c, d, v, vs, h1, h2⟩ := h
  exact whole_any p c d v vs s w hs hn h1
theorem copyO (hs : Inv s) (h : LedO base w p s) : Calls Try.prog 12 #[.pointer (some ⟨p, 0, none⟩)] w (CopyLP w s) := by
  obtain ⟨c, d, v, vs, h1, h2⟩ := h
  exact copyL_any p c d v vs s w hs h1
end
def sA : ByteArray := ⟨#[97]⟩
def sB : ByteArray := ⟨#[98]⟩
def sAB : ByteArray := ⟨#[97, 98]⟩
/-- The examples' ledger. -/
def begun1 : Led := ⟨[(sA, 48), (sB, 0)], [(sAB, ⟨sAB, sA, sB, 50, 40000, 10000⟩)], [], 0⟩
def begunA : Led := ⟨[(sA, 100)], [], [], 0⟩
def begunB : Led := ⟨[(sA, 100), (sB, 0)], [], [], 0⟩
theorem begun_m1 : mint led0 sA 100 = (0, begunA) := by kernel_rfl
theorem begun_m2 : mint begunA sB 0 = (0, begunB) := by kernel_rfl
theorem begun_m3 : openCh begunB sAB sA sB 50 10000 2 = (0, begun1) := by kernel_rfl
theorem invA : Inv begunA := by have := (Inv.led0.mint sA 100).1; rw [begun_m1] at this; exact this
theorem invB : Inv begunB := by have := (invA.mint sB 0).1; rw [begun_m2] at this; exact this
theorem inv1 : Inv begun1 := by have := (invB.openCh sAB sA sB 50 10000 2).1; rw [begun_m3] at this; exact this
/-- A new ledger of the call's own. -/
def NewO (w : World) (s : Led) (e : Ending) (w' : World) : Prop := ∃ p, e = .returned (.pointer (some ⟨p, 0, none⟩)) ∧ LedO w.heap.size w' p s ∧ Below w.heap.size w w'
theorem begun_any (w : World) : Calls Try.prog 27 #[] w (NewO w begun1) := by
  go_enter Try.func27, Try.ntmps27
  go_wp2_with fail
  refine (new_any _).mono ?_
  rintro e w1 hN
  obtain ⟨p, rfl, hL, hb⟩ := LedO.of_new hN
  have HL := Lib.hid hL
  have HB := Lib.hid hb
  clear hL hb hN
  go_wp2_with fail
  refine (mintO Inv.led0 HL.out HB.out.size sA 100).mono ?_
  rw [begun_m1]
  rintro e w2 ⟨rfl, hL, hb⟩
  have HL := Lib.hid hL
  have HB := Lib.hid (HB.out.trans hb)
  clear hL hb
  go_wp2_with fail
  refine (mintO invA HL.out HB.out.size sB 0).mono ?_
  rw [begun_m2]
  rintro e w3 ⟨rfl, hL, hb⟩
  have HL := Lib.hid hL
  have HB := Lib.hid (HB.out.trans hb)
  clear hL hb
  go_wp2_with fail
  refine (openO invB HL.out HB.out.size sAB sA sB 50 10000 2).mono ?_
  rw [begun_m3]
  rintro e w4 ⟨rfl, hL, hb⟩
  have HL := Lib.hid hL
  have HB := Lib.hid (HB.out.trans hb)
  clear hL hb
  go_wp2_with fail
  go_ret
  exact ⟨p, rfl, HL.out, HB.out⟩
def legW : Leg := ⟨sAB, sA, 40000⟩
def works1 : Led := ⟨[(sA, 48), (sB, 0)], [(sAB, ⟨sAB, sA, sB, 50, 0, 10000⟩)], [⟨1, [legW]⟩], 1⟩
def works2 : Led := ⟨[(sA, 48), (sB, 0)], [(sAB, ⟨sAB, sA, sB, 50, 0, 50000⟩)], [], 1⟩
theorem works_h : hold begun1 [legW] = (1, 0, works1) := by kernel_rfl
theorem works_s : endH true works1 1 = (0, works2) := by kernel_rfl
theorem invW1 : Inv works1 := by have := (inv1.hold [legW]).1; rw [works_h] at this; exact this
theorem invW2 : Inv works2 := by have := (invW1.endH true 1).1; rw [works_s] at this; exact this
theorem works_1a : worth1 works1 sA = 88000 := by kernel_rfl
theorem works_1b : worth1 works1 sB = 10000 := by kernel_rfl
theorem works_1t : total works1 = 98 := by kernel_rfl
theorem works_2a : worth1 works2 sA = 48000 := by kernel_rfl
theorem works_2b : worth1 works2 sB = 50000 := by kernel_rfl
/-- One leg in a block of its own. -/
theorem leg_one (w : World) (x : Leg) : LegsIn (w.alloc (.cells #[.string x.ch, .string x.src, .int .i64 x.amt] 45)) (some ⟨w.heap.size, 0, none⟩) [x] := fun _ =>
  ⟨_, rfl, fun j u hj => World.news_of_block (cs := #[.string x.ch, .string x.src, .int .i64 x.amt]) (Go.heap_alloc_new w _) j u (by simpa [legsC, legC] using hj)⟩
set_option maxRecDepth 100000 in
set_option maxHeartbeats 4000000 in
theorem works_any (w : World) : Calls Try.prog 9 #[] w fun e w' => e = .returned (.bool true) ∧ Below w.heap.size w w' := by
  go_enter Try.func9, Try.ntmps9
  go_wp2_with fail
  refine (begun_any _).mono ?_
  rintro e w1 ⟨p, rfl, hL, hb⟩
  have HL := Lib.hid hL
  have HB := Lib.hid hb
  clear hL hb
  go_wp2_with fail
  have hba : ∀ o, Below w.heap.size w (w1.alloc o) := fun o => HB.out.alloc HB.out.size o
  have HBA := Lib.hid hba
  have hla : ∀ o, LedO w.heap.size (w1.alloc o) p begun1 := fun o => HL.out.below ((Below.refl _ _).alloc (Nat.le_refl _) o)
  have HLA := Lib.hid hla
  clear hba hla
  refine (holdO (legs := [legW]) inv1 (HLA.out _) (HBA.out _).size (by decide) (some ⟨w1.heap.size, 0, none⟩) 1 (by decide) (leg_one w1 legW)).mono ?_
  rw [works_h]
  rintro e w2 ⟨rfl, hL, hb⟩
  have HL := Lib.hid hL
  have HB := Lib.hid ((HBA.out _).trans hb)
  clear hL hb
  go_wp2_with fail
  refine (worthO invW1 HL.out sA).mono ?_
  rw [works_1a]
  rintro e w3 ⟨rfl, hb⟩
  have HL := Lib.hid (HL.out.below hb)
  have HB := Lib.hid (HB.out.trans (hb.mono HB.out.size))
  clear hb
  go_wp2_with fail
  refine (worthO invW1 HL.out sB).mono ?_
  rw [works_1b]
  rintro e w4 ⟨rfl, hb⟩
  have HL := Lib.hid (HL.out.below hb)
  have HB := Lib.hid (HB.out.trans (hb.mono HB.out.size))
  clear hb
  go_wp2_with fail
  refine (totO invW1 HL.out).mono ?_
  rw [works_1t]
  rintro e w5 ⟨rfl, hb⟩
  have HL := Lib.hid (HL.out.below hb)
  have HB := Lib.hid (HB.out.trans (hb.mono HB.out.size))
  clear hb
  go_wp2_with fail
  refine (settleO invW1 HL.out HB.out.size 1).mono ?_
  rw [works_s]
  rintro e w6 ⟨rfl, hL, hb⟩
  have HL := Lib.hid hL
  have HB := Lib.hid (HB.out.trans hb)
  clear hL hb
  go_wp2_with fail
  refine (worthO invW2 HL.out sA).mono ?_
  rw [works_2a]
  rintro e w7 ⟨rfl, hb⟩
  have HL := Lib.hid (HL.out.below hb)
  have HB := Lib.hid (HB.out.trans (hb.mono HB.out.size))
  clear hb
  go_wp2_with fail
  refine (worthO invW2 HL.out sB).mono ?_
  rw [works_2b]
  rintro e w8 ⟨rfl, hb⟩
  have HB := Lib.hid (HB.out.trans (hb.mono HB.out.size))
  clear hb
  go_wp2_with fail
  go_ret
  exact ⟨rfl, HB.out⟩
end Go.Proofs.Ytmlcojhanimnpaa
