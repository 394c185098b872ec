/- For same of the statements: rows apart, blocks of legs to come, sameLegs as a reader. · same of the statements: what the two ledgers tell. · Two ledgers side by side, by the blocks that a call may write to. · The pairs of IdealPlays: what is being played with, and what was left by the last copy. · IdealPlays: its walk. · IdealPlays: the row's statement. -/
import Derived.Test.YtmlcojhanimnpaaQ7
import Derived.Test.YtmlcojhanimnpaaJ5
import Derived.Test.YtmlcojhanimnpaaFrame
namespace Go.Proofs.Ytmlcojhanimnpaa
open Go.RowKit

theorem row_apart {w w' : World} {b b2 k k2 n n2 : Nat} {E E2 : TypeId} {v v2 : Value} {xs ys : List Value} (h : w.ownsRow b E k v n xs) (h2 : w.ownsRow b2 E2 k2 v2 n2 ys) (hE : E ≠ E2) (hf : Fr v.ownBlock.toList w w') : w'.ownsRow b2 E2 k2 v2 n2 ys :=
  ownsRow_block h2 fun g hg => hf.block g (World.ownsRow.lt h2 g hg).2 fun hi => by
    obtain ⟨c1, h1⟩ := row_kind h (show v.ownBlock = some g by simpa using hi)
    obtain ⟨c2, h3⟩ := row_kind h2 hg
    rw [h1] at h3
    injection h3 with h3
    injection h3 with h4 h5
    exact hE h5
theorem hv_apart {w w' : World} {b k n : Nat} {E : TypeId} {v : Value} {xs : List Value} (h : w.ownsRow b E k v n xs) (hE : E ≠ 45) (hf : Fr v.ownBlock.toList w w') {l : List HoldR} {vs : List Value} (hv : HoldVs w l vs) : HoldVs w' l vs :=
  hv.kept fun g cur hg => hf.block g (lt_of_block hg) fun hi => by
    obtain ⟨c1, h1⟩ := row_kind h (show v.ownBlock = some g by simpa using hi)
    rw [h1] at hg
    injection hg with hg
    injection hg with h4 h5
    exact hE h5
theorem below_put {B k g : Nat} {w w0 : World} {a : Addr} {u : Value} (h : Below B w0 w) (hg : a.block = g) (hB : B ≤ g) : Below B w0 ((w.drewN k).setCell a u) := (below_drewN h k).setCell (hg ▸ hB : B ≤ a.block) u
/-- The blocks of the legs that are still to come. -/
theorem NB.rest {lo hi : Nat} {vs : List Value} (h : NB lo hi vs) (k : Nat) {x : Value} {A : Option Addr} {n c : Nat} {rest : List Value} (he : vs.drop k = x :: .slice A n c :: rest) (hx : x.ownBlock = none) :
    ∀ g, (Value.slice A n c).ownBlock = some g → (lo ≤ g ∧ g < hi) ∧ ∀ g' ∈ legBlocks rest, g' ≠ g := by
  intro g hg
  have hs : (legBlocks (vs.drop k)).Sublist (legBlocks vs) := (List.drop_sublist k vs).filterMap _
  have hp := h.asc.sublist hs
  have e : legBlocks (vs.drop k) = g :: legBlocks rest := by
    rw [he]
    unfold legBlocks
    rw [List.filterMap_cons_none hx, List.filterMap_cons_some hg]
  rw [e] at hp hs
  have h1 := h.in_ g (hs.subset (List.mem_cons_self ..))
  refine ⟨h1, fun g' hg' => ?_⟩
  have := (List.pairwise_cons.1 hp).1 g' hg'
  omega
theorem row_two {w : World} {A : Option Addr} {vs : List Value} (h : Cells w A vs) {k : Nat} {u u2 : Value} (h1 : vs[k * 2]? = some u) (h2 : vs[k * 2 + 1]? = some u2) :
    ∃ ad, A = some ad ∧ w.cell? (ad.add (k * 2)) = some u ∧ w.cell? ⟨(ad.add (k * 2)).block, (ad.add (k * 2)).off + 1, none⟩ = some u2 := by
  have hl := (List.getElem?_eq_some_iff.1 h1).1
  obtain ⟨ad, he, hc⟩ := h (by omega)
  exact ⟨ad, he, hc _ _ h1, by rw [next_add _ _ _ (by decide)]; exact hc _ _ h2⟩
set_option maxRecDepth 100000 in
set_option maxHeartbeats 8000000 in
theorem sameLegsQ (l : List Leg) (A B : Option Addr) (c d : Nat) (w : World) (hl : l.length ≤ 100000) (hA : LegsIn w A l) (hB : LegsIn w B l) :
    Calls Try.prog 57 #[.slice A l.length c, .slice B l.length d] w fun e w' => e = .returned (.bool true) ∧ ∃ m, w' = w.drewN m := by
  have HA := Lib.hid hA
  have HB := Lib.hid hB
  clear hA hB
  go_enter Try.func57, Try.ntmps57
  go_wp2_with fail
  go_loopw [5] (fun i wr => ∃ k : Nat, k ≤ l.length ∧ i = .int .i64 k ∧ ∃ m, wr = w.drewN m) (fun i _ => l.length - (intOf i).toNat)
  case atStart => exact ⟨0, Nat.zero_le _, rfl, 0, rfl⟩
  case round =>
    obtain ⟨k, hk, rfl, m, hm⟩ := hrel
    have hb : Below w.heap.size w wr := by rw [hm]; exact below_drewN (Below.refl _ _) m
    have HM := Lib.hid hm
    clear hm
    by_cases hlt : k < l.length
    · obtain ⟨la, rfl, l0, l1, l2⟩ := (LegsIn.look (Cells.below HA.out hb) hlt)
      obtain ⟨lb, rfl, m0, m1, m2⟩ := (LegsIn.look (Cells.below HB.out hb) hlt)
      obtain ⟨Y, hY⟩ : ∃ Y, l[k] = Y := ⟨_, rfl⟩
      rw [hY] at l0 l1 l2 m0 m1 m2
      clear hb hY
      go_wp2_with fail
      go_quiet (fail)
      go_wp2_with fail
      go_roundw
      case rel => exact ⟨k + 1, by omega, by go_num, m + nq, by rw [HM.out, World.drewN_drewN]⟩
      case measure => simp [intOf]; omega
    · clear hb
      go_wp2_with fail
      go_ret
      exact ⟨rfl, m, HM.out⟩
end Go.Proofs.Ytmlcojhanimnpaa

namespace Go.Proofs.Ytmlcojhanimnpaa
open Go.RowKit

set_option maxRecDepth 100000 in
set_option maxHeartbeats 8000000 in
theorem same_any (p c d q : Nat) (v va vc vh : Value) (vs us : List Value) (s : Led) (w : World) (hs : Inv s) (hn : Named s) (hl : LedAt w p c d v vs s) (hm : RLed w q va vc vh us s) :
    Calls Try.prog 24 #[.pointer (some ⟨p, 0, none⟩), .pointer (some ⟨q, 0, none⟩)] w fun e w' => e = .returned (.bool true) ∧ Below w.heap.size w w' := by
  obtain ⟨Aa, ca, rfl, -, -⟩ := RAt.accs hm
  obtain ⟨Ac, cc, rfl, -, -⟩ := RAt.chs hm
  obtain ⟨Ah, ch, rfl, -, -⟩ := own_shape (RAt.oh hm)
  have HS := Lib.hid hs
  have HN := Lib.hid hn
  have H := Lib.hid hl
  have M := Lib.hid hm
  have hla : (accs s).length ≤ 64 := by rw [accs_len]; exact hs.lk
  have hlc : (chs s).length ≤ 256 := by rw [chs_len]; exact hs.lc
  have hlh := hs.lh
  clear hs hn hl hm
  go_enter Try.func24, Try.ntmps24
  go_wp2_with fail
  refine (acc_any p c d v vs s _ HS.out HN.out H.out).mono ?_
  rintro e w1 ⟨v1, rfl, howa, hb1⟩
  obtain ⟨A1, c1, rfl, -, -⟩ := own_shape howa
  have HOA := Lib.hid howa
  have HB1 := Lib.hid hb1
  have H1 := Lib.hid (H.out.below hb1)
  clear howa hb1
  go_wp2_with fail
  refine (chs_any p c d v vs s _ HS.out HN.out H1.out).mono ?_
  rintro e w2 ⟨v2, rfl, howc, hb2⟩
  obtain ⟨A2, c2, rfl, -, -⟩ := own_shape howc
  have HOC := Lib.hid howc
  have HOA2 := Lib.hid (own_below HOA.out hb2)
  have H2 := Lib.hid (H1.out.below hb2)
  have HB2 := Lib.hid (HB1.out.trans (hb2.mono HB1.out.size))
  have hs12 := hb2.size
  clear howc hb2
  go_wp2_with fail
  refine (holds_any2 p c d v vs s _ HS.out H2.out).mono ?_
  rintro e w3 ⟨v3, vs3, rfl, howh, hvh, hb3, hnb⟩
  obtain ⟨A3, c3, rfl, -, -⟩ := own_shape howh
  have HOH := Lib.hid howh
  have HVH := Lib.hid hvh
  have HNB := Lib.hid hnb
  have HOA3 := Lib.hid (own_below HOA2.out hb3)
  have HOC3 := Lib.hid (own_below HOC.out hb3)
  have H3 := Lib.hid (H2.out.below hb3)
  have HB3 := Lib.hid (HB2.out.trans (hb3.mono HB2.out.size))
  have M3 := Lib.hid (RAt.below M.out (HB2.out.trans (hb3.mono HB2.out.size)))
  obtain ⟨e0, e1, e2, -⟩ := RAt.cell M3.out
  clear howh hvh hnb hb3
  go_wp2_with fail
  refine (tot_any p c d v vs s _ HS.out H3.out).mono ?_
  rintro e w4 ⟨rfl, hb4⟩
  have HOA4 := Lib.hid (own_below HOA3.out hb4)
  have HOC4 := Lib.hid (own_below HOC3.out hb4)
  have HOH4 := Lib.hid (own_below HOH.out hb4)
  have HVH4 := Lib.hid (hv_below HVH.out hb4)
  have HB4 := Lib.hid (HB3.out.trans (hb4.mono HB3.out.size))
  have M4 := Lib.hid (RAt.below M3.out hb4)
  clear hb4 e0 e1 e2
  go_wp2_with fail
  refine (rtot_any q _ _ _ us s _ HS.out M4.out).mono ?_
  rintro e w5 ⟨rfl, rfl⟩
  go_wp2_with fail
  go_loopw [8] (fun i wr => ∃ (k : Nat) (l' : List (ByteArray × Int)), k ≤ (accs s).length ∧ i = .int .i64 k ∧ l'.length = (accs s).length ∧ (∀ j, k ≤ j → l'[j]? = (accs s)[j]?) ∧ wr.ownsRow w.heap.size 43 2 (.slice A1 (accs s).length c1) l'.length (l'.flatMap accC) ∧ Fr (Value.slice A1 (accs s).length c1).ownBlock.toList w4 wr ∧ Below w.heap.size w wr) (fun i _ => (accs s).length - (intOf i).toNat)
  case atStart => exact ⟨0, accs s, Nat.zero_le _, rfl, rfl, fun _ _ => rfl, HOA4.out, Fr.refl _ _, HB4.out⟩
  case round =>
    obtain ⟨k, l', hk, rfl, hl', hsame, hown, hfr, hb⟩ := hrel
    by_cases hlt : k < (accs s).length
    · have hil : k < l'.length := by omega
      obtain ⟨Y, hY⟩ : ∃ Y, (accs s)[k] = Y := ⟨_, rfl⟩
      have hYl : l'[k] = Y := by
        have h1 := hsame k (Nat.le_refl _)
        rw [List.getElem?_eq_getElem hil, List.getElem?_eq_getElem hlt, hY] at h1
        exact Option.some.inj h1
      obtain ⟨g, cap, hv, -, hbg, hlg, c0, cj, -, -⟩ := row_store accC 2 (fun _ => rfl) (by decide) hown hil
      injection hv with hv1 hv2 hv3
      subst hv1
      rw [hYl] at c0
      have c1q := cj 1 (by decide) (by decide)
      rw [hYl] at c1q
      have c0' : wr.cell? ((⟨g, 0, none⟩ : Addr).add (k * 2)) = some (.string Y.1) := c0
      have c1' : wr.cell? ⟨((⟨g, 0, none⟩ : Addr).add (k * 2)).block, ((⟨g, 0, none⟩ : Addr).add (k * 2)).off + 1, none⟩ = some (.int .i64 Y.2) := c1q
      have MR := RAt.below M.out hb
      obtain ⟨e0, -, -, -⟩ := RAt.cell MR
      obtain ⟨A', c', hva, -, hca⟩ := RAt.accs MR
      injection hva with h1 h2 h3
      subst h1
      obtain ⟨lb, rfl, m0, m1⟩ := acc_look hca hlt
      rw [hY] at m0 m1
      have HOW := Lib.hid hown
      have HFR := Lib.hid hfr
      have HSAME := Lib.hid hsame
      have HBB := Lib.hid hb
      clear hfr hsame hb hown c0 c1q cj hv2 hv3 hY MR hca h2 h3
      generalize hla : (⟨g, 0, none⟩ : Addr) = la at HFR HOW HOA HOA2 HOA3 HOA4 c0' c1' ⊢
      go_wp2_with fail
      have hbA : Below wr.heap.size wr (wr.alloc (.cells #[.string Y.1, .int .i64 Y.2] 94)) := (Below.refl _ _).alloc (Nat.le_refl _) _
      have hnew := Go.heap_alloc_new wr (.cells #[.string Y.1, .int .i64 Y.2] 94)
      generalize hW : wr.alloc (.cells #[.string Y.1, .int .i64 Y.2] 94) = W at hbA hnew ⊢
      have x0 : W.cell? ⟨wr.heap.size, 0, none⟩ = some (.string Y.1) := by simp [World.cell?, hnew]
      have x1 : W.cell? ⟨wr.heap.size, 1, none⟩ = some (.int .i64 Y.2) := by simp [World.cell?, hnew]
      have y0 := cell_below hbA c0'
      have y1 := cell_below hbA c1'
      have HBA := Lib.hid hbA
      obtain ⟨g2, cap2, hv2, -, -, -, -, -, fz, hput⟩ := row_store accC 2 (fun _ => rfl) (by decide) (own_below HOW.out hbA) hil
      injection hv2 with hv1 hv3 hv4
      have hv1' := Option.some.inj hv1
      rw [← hv1'] at fz hput
      rw [hYl] at hput
      have f1' := fz 1 (by decide)
      have HPUT := Lib.hid hput
      have HV1 := Lib.hid hv1'
      clear hbA hnew hW c0' c1' m0 m1 e0 hput fz hYl hv1 hv1' hv3 hv4
      go_quiet (fail)
      go_wp2_with fail
      go_roundw
      case rel =>
        subst hla
        obtain rfl : g = g2 := by have := HV1.out; injection this
        obtain ⟨h1, h2⟩ := HPUT.out nq 1 (.int .i64 (-9)) (Y.1, -9) (by decide) (by decide) rfl
        refine ⟨k + 1, l'.set k (Y.1, -9), by omega, by go_num, by rw [List.length_set]; exact hl', fun j hj => ?_, ?_, ?_, ?_⟩
        · rw [List.getElem?_set_ne (by omega)]; exact HSAME.out j (by omega)
        · rw [List.length_set]; exact h1
        · exact (HFR.out.trans (Fr.below (F := []) HBA.out) (fun i hi _ => by cases hi)).trans h2 fun i hi _ => by simpa [Value.ownBlock] using hi
        · exact below_put (HBB.out.trans (HBA.out.mono HBB.out.size)) rfl (by rw [add_block]; exact hbg)
      case measure => simp [intOf]; omega
    · have hoc := row_apart HOA4.out HOC4.out (by decide) hfr
      have hoh := row_apart HOA4.out HOH4.out (by decide) hfr
      have hvh := hv_apart HOA4.out (by decide) hfr HVH4.out
      have HOC5 := Lib.hid hoc
      have HOH5 := Lib.hid hoh
      have HVH5 := Lib.hid hvh
      have HB5 := Lib.hid hb
      clear hoc hoh hvh hb hown hfr hsame
      obtain ⟨wA, rfl⟩ : ∃ x, x = wr := ⟨wr, rfl⟩
      go_wp2_with fail
      go_loopw [10] (fun i wr => ∃ (k : Nat) (l' : List Chan), k ≤ (chs s).length ∧ i = .int .i64 k ∧ l'.length = (chs s).length ∧ (∀ j, k ≤ j → l'[j]? = (chs s)[j]?) ∧ wr.ownsRow w1.heap.size 87 6 (.slice A2 (chs s).length c2) l'.length (l'.flatMap chC) ∧ Fr (Value.slice A2 (chs s).length c2).ownBlock.toList wA wr ∧ Below w.heap.size w wr) (fun i _ => (chs s).length - (intOf i).toNat)
      case atStart => exact ⟨0, chs s, Nat.zero_le _, rfl, rfl, fun _ _ => rfl, HOC5.out, Fr.refl _ _, HB5.out⟩
      case round =>
        obtain ⟨k, l', hk, rfl, hl', hsame, hown, hfr, hb⟩ := hrel
        by_cases hlt : k < (chs s).length
        · have hil : k < l'.length := by omega
          obtain ⟨Y, hY⟩ : ∃ Y, (chs s)[k] = Y := ⟨_, rfl⟩
          have hYl : l'[k] = Y := by
            have h1 := hsame k (Nat.le_refl _)
            rw [List.getElem?_eq_getElem hil, List.getElem?_eq_getElem hlt, hY] at h1
            exact Option.some.inj h1
          obtain ⟨g, cap, hv, -, hbg, hlg, c0, cj, -, -⟩ := row_store chC 6 (fun _ => rfl) (by decide) hown hil
          injection hv with hv1 hv2 hv3
          subst hv1
          rw [hYl] at c0
          have c1q := cj 1 (by decide) (by decide)
          have c2q := cj 2 (by decide) (by decide)
          have c3q := cj 3 (by decide) (by decide)
          have c4q := cj 4 (by decide) (by decide)
          have c5q := cj 5 (by decide) (by decide)
          rw [hYl] at c1q c2q c3q c4q c5q
          have c0' : wr.cell? ((⟨g, 0, none⟩ : Addr).add (k * 6)) = some (.string Y.name) := c0
          have c1' : wr.cell? ⟨((⟨g, 0, none⟩ : Addr).add (k * 6)).block, ((⟨g, 0, none⟩ : Addr).add (k * 6)).off + 1, none⟩ = some (.string Y.a) := c1q
          have c2' : wr.cell? ⟨((⟨g, 0, none⟩ : Addr).add (k * 6)).block, ((⟨g, 0, none⟩ : Addr).add (k * 6)).off + 2, none⟩ = some (.string Y.b) := c2q
          have c3' : wr.cell? ⟨((⟨g, 0, none⟩ : Addr).add (k * 6)).block, ((⟨g, 0, none⟩ : Addr).add (k * 6)).off + 3, none⟩ = some (.int .i64 Y.cap) := c3q
          have c4' : wr.cell? ⟨((⟨g, 0, none⟩ : Addr).add (k * 6)).block, ((⟨g, 0, none⟩ : Addr).add (k * 6)).off + 4, none⟩ = some (.int .i64 Y.hasA) := c4q
          have c5' : wr.cell? ⟨((⟨g, 0, none⟩ : Addr).add (k * 6)).block, ((⟨g, 0, none⟩ : Addr).add (k * 6)).off + 5, none⟩ = some (.int .i64 Y.hasB) := c5q
          have MR := RAt.below M.out hb
          obtain ⟨-, e1, -, -⟩ := RAt.cell MR
          obtain ⟨A', c', hva, -, hca⟩ := RAt.chs MR
          injection hva with h1 h2 h3
          subst h1
          obtain ⟨lb, rfl, m0, m1, m2, m3, m4, m5⟩ := ch_look hca hlt
          rw [hY] at m0 m1 m2 m3 m4 m5
          have HOW := Lib.hid hown
          have HFR := Lib.hid hfr
          have HSAME := Lib.hid hsame
          have HBB := Lib.hid hb
          clear hfr hsame hb hown c0 c1q c2q c3q c4q c5q cj hv2 hv3 hY MR hca h2 h3
          generalize hla : (⟨g, 0, none⟩ : Addr) = la at HFR HOW HOC HOC3 HOC4 HOC5 c0' c1' c2' c3' c4' c5' ⊢
          go_wp2_with fail
          have hbA : Below wr.heap.size wr (wr.alloc (.cells #[.string Y.name, .string Y.a, .string Y.b, .int .i64 Y.cap, .int .i64 Y.hasA, .int .i64 Y.hasB] 95)) := (Below.refl _ _).alloc (Nat.le_refl _) _
          have hnew := Go.heap_alloc_new wr (.cells #[.string Y.name, .string Y.a, .string Y.b, .int .i64 Y.cap, .int .i64 Y.hasA, .int .i64 Y.hasB] 95)
          generalize hW : wr.alloc (.cells #[.string Y.name, .string Y.a, .string Y.b, .int .i64 Y.cap, .int .i64 Y.hasA, .int .i64 Y.hasB] 95) = W at hbA hnew ⊢
          have x0 : W.cell? ⟨wr.heap.size, 0, none⟩ = some (.string Y.name) := by simp [World.cell?, hnew]
          have x1 : W.cell? ⟨wr.heap.size, 1, none⟩ = some (.string Y.a) := by simp [World.cell?, hnew]
          have x2 : W.cell? ⟨wr.heap.size, 2, none⟩ = some (.string Y.b) := by simp [World.cell?, hnew]
          have x3 : W.cell? ⟨wr.heap.size, 3, none⟩ = some (.int .i64 Y.cap) := by simp [World.cell?, hnew]
          have x4 : W.cell? ⟨wr.heap.size, 4, none⟩ = some (.int .i64 Y.hasA) := by simp [World.cell?, hnew]
          have x5 : W.cell? ⟨wr.heap.size, 5, none⟩ = some (.int .i64 Y.hasB) := by simp [World.cell?, hnew]
          have y0 := cell_below hbA c0'
          have y1 := cell_below hbA c1'
          have y2 := cell_below hbA c2'
          have y3 := cell_below hbA c3'
          have y4 := cell_below hbA c4'
          have y5 := cell_below hbA c5'
          have HBA := Lib.hid hbA
          obtain ⟨g2, cap2, hv2, -, -, -, -, -, fz, hput⟩ := row_store chC 6 (fun _ => rfl) (by decide) (own_below HOW.out hbA) hil
          injection hv2 with hv1 hv3 hv4
          have hv1' := Option.some.inj hv1
          rw [← hv1'] at fz hput
          rw [hYl] at hput
          have f4' := fz 4 (by decide)
          have HPUT := Lib.hid hput
          have HV1 := Lib.hid hv1'
          clear hbA hnew hW c0' c1' c2' c3' c4' c5' m0 m1 m2 m3 m4 m5 e1 hput fz hYl hv1 hv1' hv3 hv4
          go_quiet (fail)
          go_wp2_with fail
          go_roundw
          case rel =>
            subst hla
            obtain rfl : g = g2 := by have := HV1.out; injection this
            obtain ⟨h1, h2⟩ := HPUT.out nq 4 (.int .i64 (-9)) { Y with hasA := -9 } (by decide) (by decide) rfl
            refine ⟨k + 1, l'.set k { Y with hasA := -9 }, by omega, by go_num, by rw [List.length_set]; exact hl', fun j hj => ?_, ?_, ?_, ?_⟩
            · rw [List.getElem?_set_ne (by omega)]; exact HSAME.out j (by omega)
            · rw [List.length_set]; exact h1
            · exact (HFR.out.trans (Fr.below (F := []) HBA.out) (fun i hi _ => by cases hi)).trans h2 fun i hi _ => by simpa [Value.ownBlock] using hi
            · exact below_put (HBB.out.trans (HBA.out.mono HBB.out.size)) rfl (by rw [add_block]; exact Nat.le_trans HB1.out.size hbg)
          case measure => simp [intOf]; omega
        · have hoh := row_apart HOC5.out HOH5.out (by decide) hfr
          have hvh := hv_apart HOC5.out (by decide) hfr HVH5.out
          have HOH6 := Lib.hid hoh
          have HVH6 := Lib.hid hvh
          have HB6 := Lib.hid hb
          clear hoh hvh hb hown hfr hsame
          obtain ⟨wC, rfl⟩ : ∃ x, x = wr := ⟨wr, rfl⟩
          have hvlen := HVH6.out.len
          go_wp2_with fail
          go_loopw [12] (fun i wr => ∃ (k : Nat), k ≤ s.holds.length ∧ i = .int .i64 k ∧ wr.ownsRow w2.heap.size 74 2 (.slice A3 s.holds.length c3) s.holds.length vs3 ∧ HoldVs wr (s.holds.drop k) (vs3.drop (k * 2)) ∧ Below w.heap.size w wr) (fun i _ => s.holds.length - (intOf i).toNat)
          case atStart => exact ⟨0, Nat.zero_le _, rfl, HOH6.out, by simpa using HVH6.out, HB6.out⟩
          case round =>
            obtain ⟨k, hk, rfl, hown, hvs, hb⟩ := hrel
            by_cases hlt : k < s.holds.length
            · obtain ⟨Y, hY⟩ : ∃ Y, s.holds[k] = Y := ⟨_, rfl⟩
              rw [List.drop_eq_getElem_cons hlt, hY] at hvs
              obtain ⟨Al, cl, rest, hrest, hol, hvr⟩ := hvs
              have hr2 : rest = vs3.drop ((k + 1) * 2) := by rw [show (k + 1) * 2 = k * 2 + 2 by omega, ← List.drop_drop, hrest]; rfl
              have g0 : vs3[k * 2]? = some (.int .i64 Y.id) := by have := List.getElem?_drop (xs := vs3) (i := k * 2) (j := 0); rw [hrest] at this; simpa using this.symm
              have g1 : vs3[k * 2 + 1]? = some (.slice Al Y.legs.length cl) := by have := List.getElem?_drop (xs := vs3) (i := k * 2) (j := 1); rw [hrest] at this; simpa using this.symm
              obtain ⟨A4, c4, hv4, -, hc4⟩ := own_shape hown
              injection hv4 with h1 h2 h3
              subst h1
              obtain ⟨la, rfl, c0', c1'⟩ := row_two hc4 g0 g1
              have MR := RAt.below M.out hb
              obtain ⟨-, -, e2, -⟩ := RAt.cell MR
              obtain ⟨A5, c5, hv5, -, hc5⟩ := own_shape (RAt.oh MR)
              injection hv5 with h4 h5 h6
              subst h4
              obtain ⟨B, cb, g2, g3, hor⟩ := (RAt.hv MR).at_ k hlt
              rw [hY] at g2 g3 hor
              obtain ⟨lb, rfl, m0, m1⟩ := row_two hc5 g2 g3
              obtain ⟨B5, c5', hv6, -, hc6⟩ := own_shape hor
              injection hv6 with h7 h8 h9
              subst h7
              have hyl : Y.legs.length ≤ 20 := by rw [← hY]; exact HS.out.hl _ (List.getElem_mem hlt)
              have hsl := fun n => Calls.quiet_of (n := n) (sameLegsQ Y.legs Al B cl cb (wr.drewN n) (by omega) (Cells.drewN (legs_of_own hol) n) (Cells.drewN hc6 n))
              have HSL := Lib.hid hsl
              have HOW := Lib.hid hown
              have HOL := Lib.hid hol
              have HVR := Lib.hid hvr
              have HBB := Lib.hid hb
              have HRE := Lib.hid hrest
              have HR2 := Lib.hid hr2
              clear hown hol hvr hb hrest hr2 hY g0 g1 g2 g3 hc4 hc5 hc6 MR hor hsl h2 h3 h5 h6 h8 h9
              go_wp2_with fail
              go_quiet (first | (go_at_call 57; with_reducible exact HSL.out _))
              go_wp2_with fail
              have hdr := below_drewN (Below.refl wr.heap.size wr) nq
              have HOW2 := Lib.hid (own_below HOW.out hdr)
              have HOL2 := Lib.hid (own_below HOL.out hdr)
              have HVR2 := Lib.hid (hv_below HVR.out hdr)
              have HBB2 := Lib.hid (below_drewN HBB.out nq)
              clear hdr c0' c1' m0 m1 e2
              generalize wr.drewN nq = wD at HOW2 HOL2 HVR2 HBB2 ⊢
              have hgap := NB.rest HNB.out (k * 2) HRE.out rfl
              have HGAP := Lib.hid hgap
              clear hgap
              go_loopw [13] (fun i wr => ∃ (j : Nat) (l' : List Leg), j ≤ Y.legs.length ∧ i = .int .i64 j ∧ l'.length = Y.legs.length ∧ wr.ownsRow 0 45 3 (.slice Al Y.legs.length cl) l'.length (legsC l') ∧ Fr (Value.slice Al Y.legs.length cl).ownBlock.toList wD wr ∧ Below w.heap.size w wr) (fun i _ => Y.legs.length - (intOf i).toNat)
              case atStart => exact ⟨0, Y.legs, Nat.zero_le _, rfl, rfl, HOL2.out, Fr.refl _ _, HBB2.out⟩
              case round =>
                obtain ⟨j, l', hj, rfl, hl', hownl, hfr, hb⟩ := hrel
                have how := row_apart HOL2.out HOW2.out (by decide) hfr
                have g1 : vs3[k * 2 + 1]? = some (.slice Al Y.legs.length cl) := by have := List.getElem?_drop (xs := vs3) (i := k * 2) (j := 1); rw [HRE.out] at this; simpa using this.symm
                have g0 : vs3[k * 2]? = some (.int .i64 Y.id) := by have := List.getElem?_drop (xs := vs3) (i := k * 2) (j := 0); rw [HRE.out] at this; simpa using this.symm
                obtain ⟨A6, c6, hv4, -, hc4⟩ := own_shape how
                injection hv4 with h1 h2 h3
                subst h1
                obtain ⟨la', hla', -, c1'⟩ := row_two hc4 g0 g1
                have hla' := Option.some.inj hla'
                subst hla'
                by_cases hjl : j < Y.legs.length
                · have hil : j < l'.length := by omega
                  obtain ⟨g, cap, hv, -, -, hlg, -, cj, fz, hput⟩ := row_store legC 3 (fun _ => rfl) (by decide) (show wr.ownsRow 0 45 3 _ l'.length (l'.flatMap legC) from hownl) hil
                  injection hv with hv1 hv2 hv3
                  subst hv1
                  have c2' : wr.cell? ⟨((⟨g, 0, none⟩ : Addr).add (j * 3)).block, ((⟨g, 0, none⟩ : Addr).add (j * 3)).off + 2, none⟩ = some (.int .i64 l'[j].amt) := cj 2 (by decide) (by decide)
                  have f2' := fz 2 (by decide)
                  have hgb := (HGAP.out g rfl).1
                  have HPUT := Lib.hid hput
                  have HFR := Lib.hid hfr
                  have HBB3 := Lib.hid hb
                  clear hput hfr hb hownl fz cj how g0 g1 hc4 h2 h3 hv2 hv3
                  generalize hlc : (⟨g, 0, none⟩ : Addr) = lc at HFR HOL HOL2 c1' c2' HRE HSL HGAP f2' HPUT ⊢
                  go_wp2_with fail
                  go_roundw
                  case rel =>
                    subst hlc
                    obtain ⟨h1, h2⟩ := HPUT.out 0 2 (.int .i64 (-9)) { l'[j] with amt := -9 } (by decide) (by decide) rfl
                    exact ⟨j + 1, l'.set j { l'[j] with amt := -9 }, by omega, by go_num, by rw [List.length_set]; exact hl', by rw [List.length_set]; exact h1, HFR.out.trans h2 (fun i hi _ => by simpa [Value.ownBlock] using hi), below_put (k := 0) HBB3.out rfl (by rw [add_block]; show w.heap.size ≤ g; have := HB1.out.size; have := HB2.out.size; omega)⟩
                  case measure => simp [intOf]; omega
                · have hfin : wr.ownsRow w2.heap.size 74 2 (.slice (some la) s.holds.length c3) s.holds.length vs3 ∧ HoldVs wr (s.holds.drop (k + 1)) (vs3.drop ((k + 1) * 2)) ∧ Below w.heap.size w wr := by
                    refine ⟨how, ?_, hb⟩
                    rw [← HR2.out]
                    exact HVR2.out.kept2 fun g hg => hfr.block g (legBlocks_lt HVR2.out g hg) fun hi => (HGAP.out g (by simpa using hi)).2 g hg rfl
                  have HFIN := Lib.hid hfin
                  clear hfin how hfr hb hownl g0 g1 hc4
                  go_wp2_with fail
                  go_roundw
                  case rel => exact ⟨k + 1, by omega, by go_num, HFIN.out.1, HFIN.out.2.1, HFIN.out.2.2⟩
                  case measure => simp [intOf]; omega
            · go_wp2_with fail
              go_ret
              exact ⟨rfl, hb⟩
end Go.Proofs.Ytmlcojhanimnpaa

namespace Go.Proofs.Ytmlcojhanimnpaa
open Go.RowKit

/-- The same ledger twice: the program's in block p, the document's in block q; F are the blocks that a call may write to. -/
def LM (w : World) (p q : Nat) (s : Led) (F : List Nat) : Prop :=
  ∃ c d v vs va vc vh us, LedAt w p c d v vs s ∧ RLed w q va vc vh us s ∧ F = fpB p c d v q va vc vh
section
variable {w w' : World} {p q p2 q2 : Nat} {s s2 : Led} {F F2 : List Nat}
theorem LM.below (h : LM w p q s F) (hb : Below w.heap.size w w') : LM w' p q s F := by
  obtain ⟨c, d, v, vs, va, vc, vh, us, hl, hm, e⟩ := h
  exact ⟨c, d, v, vs, va, vc, vh, us, hl.below hb, RAt.below hm hb, e⟩
theorem LM.lts (h : LM w p q s F) : ∀ i ∈ F, i < w.heap.size := by
  obtain ⟨c, d, v, vs, va, vc, vh, us, hl, hm, rfl⟩ := h
  intro i hi
  rcases List.mem_append.1 hi with hi | hi
  · exact fp_lt hl i hi
  · exact RAt.lts hm i hi
theorem LM.noleg (h : LM w p q s F) : ∀ g ∈ F, ∀ cur, w.heap[g]? ≠ some (Obj.cells cur 45) ∧ w.heap[g]? ≠ some (Obj.cells cur 119) := by
  obtain ⟨c, d, v, vs, va, vc, vh, us, hl, hm, rfl⟩ := h
  intro g hg cur
  rcases List.mem_append.1 hg with hg | hg
  · rcases fp_kind hl g hg with ⟨es, k, h1⟩ | ⟨cs', h1⟩ | ⟨cs', h1⟩
    · rw [h1]
      exact ⟨(fun h => by cases h), (fun h => by cases h)⟩
    · rw [h1]
      exact ⟨fun h => by injection h with h; injection h with h1 h2; exact absurd h2 (by decide), fun h => by injection h with h; injection h with h1 h2; exact absurd h2 (by decide)⟩
    · rw [h1]
      exact ⟨fun h => by injection h with h; injection h with h1 h2; exact absurd h2 (by decide), fun h => by injection h with h; injection h with h1 h2; exact absurd h2 (by decide)⟩
  · refine ⟨fun h => ?_, RAt.not_leg hm g hg cur⟩
    obtain ⟨cs, T, hc, hT⟩ := fpR_kind hm g hg
    rw [h] at hc
    injection hc with h1
    injection h1 with h1 h2
    subst h2
    rcases hT with h | h | h | h <;> exact absurd h (by decide)
/-- A pair stays what it is where another, apart from it, is written to. -/
theorem LM.aside (h2 : LM w p2 q2 s2 F2) (h1 : LM w p q s F) (hf : Fr F w w') (hd : ∀ i ∈ F, i ∉ F2) : LM w' p2 q2 s2 F2 := by
  have hn := h1.noleg
  obtain ⟨c, d, v, vs, va, vc, vh, us, hl, hm, rfl⟩ := h2
  refine ⟨c, d, v, vs, va, vc, vh, us, hl.kept (fun i hi => hf.block i (fp_lt hl i hi) fun h => hd i h (List.mem_append.2 (.inl hi))) (fun g cur hg => hf.block g (lt_of_block hg) fun h => (hn g h cur).1 hg), RAt.kept hm (fun i hi => hf.block i (RAt.lts hm i hi) fun h => hd i h (List.mem_append.2 (.inr hi))) (fun g cur hg => hf.block g (lt_of_block hg) fun h => (hn g h cur).2 hg), rfl⟩
/-- What a call of both leaves. -/
def LMP (w : World) (p q : Nat) (s' : Led) (F : List Nat) (w' : World) : Prop := ∃ F', LM w' p q s' F' ∧ Fr F w w' ∧ ∀ i ∈ F', i ∈ F ∨ w.heap.size ≤ i
theorem LM.plays (hs : Inv s) (h : LM w p q s F) (hlast : s.last ≤ 4611686018427387904) (x : OpR) (B : Option Addr) (ca : Nat) (hx : OpWf x) (hlen : x.legs.length ≤ 100000) (hB : LegsIn w B x.legs) (hBF : 0 < (legsC x.legs).length → ∀ ad, B = some ad → ad.block ∉ F ∧ ad.block < w.heap.size)
    (hk9 : x.kind % 11 ≠ 9) (hk10 : x.kind % 11 ≠ 10) :
    Calls Try.prog 23 #[.pointer (some ⟨p, 0, none⟩), .pointer (some ⟨q, 0, none⟩), opV x B ca] w fun e w' => e = .returned (.bool true) ∧ LMP w p q (doL s x).2.2 F w' := by
  obtain ⟨c, d, v, vs, va, vc, vh, us, hl, hm, rfl⟩ := h
  refine (plays_any p c d q v va vc vh vs us s x B ca w hs hl hm hlast hlen hB (fun hn ad he => ?_) hx.k0 hk9 hk10 hx.name hx.a).mono ?_
  · obtain ⟨h1, h2⟩ := hBF hn ad he
    exact ⟨fun h => h1 (List.mem_append.2 (.inl h)), fun h => h1 (List.mem_append.2 (.inr h)), h2⟩
  · rintro e w' ⟨rfl, c', d', v', vs', va', vc', vh', us', h1, h2, h3, h4⟩
    exact ⟨rfl, _, ⟨c', d', v', vs', va', vc', vh', us', h1, h2, rfl⟩, h3, h4⟩
theorem LM.same (hs : Inv s) (hn : Named s) (h : LM w p q s F) :
    Calls Try.prog 24 #[.pointer (some ⟨p, 0, none⟩), .pointer (some ⟨q, 0, none⟩)] w fun e w' => e = .returned (.bool true) ∧ Below w.heap.size w w' := by
  obtain ⟨c, d, v, vs, va, vc, vh, us, hl, hm, rfl⟩ := h
  exact same_any p c d q v va vc vh vs us s w hs hn hl hm
theorem LM.copyL (hs : Inv s) (h : LM w p q s F) : Calls Try.prog 12 #[.pointer (some ⟨p, 0, none⟩)] w (CopyLP w s) := by
  obtain ⟨c, d, v, vs, va, vc, vh, us, hl, hm, rfl⟩ := h
  exact copyL_any p c d v vs s w hs hl
theorem LM.rcopy (hs : Inv s) (h : LM w p q s F) : Calls Try.prog 22 #[.pointer (some ⟨q, 0, none⟩)] w (RNew w (accs s) (chs s) s.holds s.last) := by
  obtain ⟨c, d, v, vs, va, vc, vh, us, hl, hm, rfl⟩ := h
  exact rcopy_any q va vc vh us _ _ _ _ w (by rw [accs_len]; exact hs.lk) (by rw [chs_len]; exact hs.lc) (by have := hs.lh; omega) hm
end
/-- A new pair in blocks of its own. -/
theorem LM.of_copies {w w1 w2 : World} {s : Led} {e e2 : Ending} (h1 : CopyLP w s e w1) (h2 : RNew w1 (accs s) (chs s) s.holds s.last e2 w2) :
    ∃ p q F, e = .returned (.pointer (some ⟨p, 0, none⟩)) ∧ e2 = .returned (.pointer (some ⟨q, 0, none⟩)) ∧ LM w2 p q s F ∧ (∀ i ∈ F, w.heap.size ≤ i) ∧ Below w.heap.size w w1 ∧ Below w.heap.size w w2 := by
  obtain ⟨p, c, d, v, vs, rfl, hl, hn, hb⟩ := h1
  obtain ⟨q, va, vc, vh, us, rfl, hm, hn2, hb2⟩ := h2
  refine ⟨p, q, _, rfl, rfl, ⟨c, d, v, vs, va, vc, vh, us, hl.below hb2, hm, rfl⟩, fun i hi => ?_, hb, hb.trans (hb2.mono hb.size)⟩
  rcases List.mem_append.1 hi with hi | hi
  · exact hn i hi
  · exact Nat.le_trans hb.size (hn2 i hi)
/-- The pair of the beginning. -/
theorem LM.begin {w w1 : World} {e : Ending} (h : NewP w e w1) :
    ∃ p F, e = .returned (.pointer (some ⟨p, 0, none⟩)) ∧ LM (w1.alloc (.cells #[.slice none 0 0, .slice none 0 0, .slice none 0 0, .int .i64 0] 55)) p w1.heap.size led0 F ∧ (∀ i ∈ F, w.heap.size ≤ i) ∧ Below w.heap.size w (w1.alloc (.cells #[.slice none 0 0, .slice none 0 0, .slice none 0 0, .int .i64 0] 55)) := by
  obtain ⟨p, c, d, rfl, hl, hp, hc, hd, hb⟩ := h
  have ha0 : accs led0 = [] := List.length_eq_zero_iff.1 (accs_len led0)
  have hc0 : chs led0 = [] := List.length_eq_zero_iff.1 (chs_len led0)
  refine ⟨p, _, rfl, ⟨c, d, _, _, .slice none 0 0, .slice none 0 0, .slice none 0 0, [], hl.alloc _, ⟨Go.heap_alloc_new w1 _, by rw [ha0]; exact World.ownsRow_nil _ _ _ _, by rw [hc0]; exact World.ownsRow_nil _ _ _ _, World.ownsRow_nil _ _ _ _, rfl⟩, rfl⟩, fun i hi => ?_, hb.alloc hb.size _⟩
  simp only [fpB, fp, fpR, Value.ownBlock, Option.toList, List.mem_append, List.mem_cons, List.not_mem_nil, or_false, List.append_nil] at hi
  rcases hi with (rfl | rfl | rfl) | rfl
  · exact hp
  · exact hc
  · exact hd
  · exact hb.size
theorem Good.mono {s : Led} {i j : Nat} (h : Good s i) (hij : i ≤ j) : Good s j := ⟨h.inv, h.named, Int.le_trans h.last (by omega)⟩
theorem Good.copies {s : Led} {i : Nat} (h : Good s i) (hi : i ≤ 1000000) : s.last ≤ 4611686018427387904 := by have := h.last; omega
end Go.Proofs.Ytmlcojhanimnpaa

namespace Go.Proofs.Ytmlcojhanimnpaa
open Go.RowKit

def PairsP (W : World) (k p q p2 q2 : Nat) (s s2 : Led) (w : World) : Prop :=
  ∃ F F2, Good s k ∧ Good s2 k ∧ LM w p q s F ∧ LM w p2 q2 s2 F2 ∧ ((p2 = p ∧ q2 = q ∧ s2 = s) ∨ ∀ i ∈ F, i ∉ F2) ∧ (∀ i ∈ F, W.heap.size ≤ i) ∧ (∀ i ∈ F2, W.heap.size ≤ i) ∧ Below W.heap.size W w
section
variable {W w w' : World} {k p q p2 q2 : Nat} {s s2 : Led}
theorem PairsP.below (h : PairsP W k p q p2 q2 s s2 w) (hb : Below w.heap.size w w') : PairsP W k p q p2 q2 s s2 w' := by
  obtain ⟨F, F2, g, g2, l1, l2, hc, h1, h2, hB⟩ := h
  exact ⟨F, F2, g, g2, l1.below hb, l2.below hb, hc, h1, h2, hB.trans (hb.mono hB.size)⟩
theorem PairsP.world (h : PairsP W k p q p2 q2 s s2 w) : Below W.heap.size W w := by
  obtain ⟨F, F2, g, g2, l1, l2, hc, h1, h2, hB⟩ := h
  exact hB
theorem PairsP.back (h : PairsP W k p q p2 q2 s s2 w) : PairsP W (k + 1) p2 q2 p2 q2 s2 s2 w := by
  obtain ⟨F, F2, g, g2, l1, l2, hc, h1, h2, hB⟩ := h
  exact ⟨F2, F2, g2.mono (by omega), g2.mono (by omega), l2, l2, .inl ⟨rfl, rfl, rfl⟩, h2, h2, hB⟩
theorem PairsP.plays (h : PairsP W k p q p2 q2 s s2 w) (hk : k ≤ 1000000) (x : OpR) (B : Option Addr) (ca : Nat) (hx : OpWf x) (hlen : x.legs.length ≤ 100000) (hB : LegsIn w B x.legs) (hB0 : 0 < (legsC x.legs).length → ∀ ad, B = some ad → ad.block < W.heap.size)
    (hk9 : x.kind % 11 ≠ 9) (hk10 : x.kind % 11 ≠ 10) :
    Calls Try.prog 23 #[.pointer (some ⟨p, 0, none⟩), .pointer (some ⟨q, 0, none⟩), opV x B ca] w fun e w' => e = .returned (.bool true) ∧ ∃ s' s2', PairsP W (k + 1) p q p2 q2 s' s2' w' := by
  obtain ⟨F, F2, g, g2, l1, l2, hc, h1, h2, hW⟩ := h
  refine (l1.plays g.inv (g.copies hk) x B ca hx hlen hB (fun hn ad he => ?_) hk9 hk10).mono ?_
  · have h0 := hB0 hn ad he
    exact ⟨fun hi => by have := h1 _ hi; omega, Nat.lt_of_lt_of_le h0 hW.size⟩
  · rintro e w' ⟨rfl, F', m1, hf, hn⟩
    have hF' : ∀ i ∈ F', W.heap.size ≤ i := fun i hi => by
      rcases hn i hi with h | h
      · exact h1 i h
      · exact Nat.le_trans hW.size h
    have hB' : Below W.heap.size W w' := hW.trans (hf.toBelowOf hW.size h1)
    rcases hc with ⟨rfl, rfl, rfl⟩ | hc
    · exact ⟨rfl, _, _, F', F', g.step x, g.step x, m1, m1, .inl ⟨rfl, rfl, rfl⟩, hF', hF', hB'⟩
    · refine ⟨rfl, _, s2, F', F2, g.step x, g2.mono (by omega), m1, l2.aside l1 hf hc, .inr fun i hi hi2 => ?_, hF', h2, hB'⟩
      rcases hn i hi with h | h
      · exact hc i h hi2
      · have := l2.lts i hi2
        omega
theorem PairsP.same1 (h : PairsP W k p q p2 q2 s s2 w) :
    Calls Try.prog 24 #[.pointer (some ⟨p, 0, none⟩), .pointer (some ⟨q, 0, none⟩)] w fun e w' => e = .returned (.bool true) ∧ PairsP W k p q p2 q2 s s2 w' := by
  have h0 := h
  obtain ⟨F, F2, g, g2, l1, l2, hc, h1, h2, hW⟩ := h0
  exact (l1.same g.inv g.named).mono fun e w' hp => ⟨hp.1, h.below hp.2⟩
theorem PairsP.same2 (h : PairsP W k p q p2 q2 s s2 w) :
    Calls Try.prog 24 #[.pointer (some ⟨p2, 0, none⟩), .pointer (some ⟨q2, 0, none⟩)] w fun e w' => e = .returned (.bool true) ∧ PairsP W k p q p2 q2 s s2 w' := by
  have h0 := h
  obtain ⟨F, F2, g, g2, l1, l2, hc, h1, h2, hW⟩ := h0
  exact (l2.same g2.inv g2.named).mono fun e w' hp => ⟨hp.1, h.below hp.2⟩
theorem PairsP.copyL (h : PairsP W k p q p2 q2 s s2 w) : Calls Try.prog 12 #[.pointer (some ⟨p, 0, none⟩)] w (CopyLP w s) := by
  obtain ⟨F, F2, g, g2, l1, l2, hc, h1, h2, hW⟩ := h
  exact l1.copyL g.inv
theorem PairsP.rcopy (h : PairsP W k p q p2 q2 s s2 w) : Calls Try.prog 22 #[.pointer (some ⟨q, 0, none⟩)] w (RNew w (accs s) (chs s) s.holds s.last) := by
  obtain ⟨F, F2, g, g2, l1, l2, hc, h1, h2, hW⟩ := h
  exact l1.rcopy g.inv
theorem CopyLP.below {w1 : World} {e : Ending} (h : CopyLP w s e w1) : Below w.heap.size w w1 := by
  obtain ⟨p, c, d, v, vs, rfl, hl, hn, hb⟩ := h
  exact hb
theorem PairsP.copies (h : PairsP W k p q p2 q2 s s2 w) {p' q' : Nat} {w1 w2 : World} (h1 : CopyLP w s (.returned (.pointer (some ⟨p', 0, none⟩))) w1) (h2 : RNew w1 (accs s) (chs s) s.holds s.last (.returned (.pointer (some ⟨q', 0, none⟩))) w2) : PairsP W (k + 1) p' q' p q s s w2 := by
  obtain ⟨a, b, F3, e1, e2, m1, hn, hb1, hb2⟩ := LM.of_copies h1 h2
  injection e1 with e1
  injection e1 with e1
  injection e1 with e1
  injection e1 with e1
  injection e2 with e2
  injection e2 with e2
  injection e2 with e2
  injection e2 with e2
  subst e1
  subst e2
  obtain ⟨F, F2, g, g2, l1, l2, hc, h3, h4, hW⟩ := h
  exact ⟨F3, F, g.mono (by omega), g.mono (by omega), m1, l1.below hb2, .inr fun i hi hi2 => by have := hn i hi; have := l1.lts i hi2; omega, fun i hi => Nat.le_trans hW.size (hn i hi), h3, hW.trans (hb2.mono hW.size)⟩
end
theorem PairsP.begin {W w0 w1 : World} {e : Ending} (hW : Below W.heap.size W w0) (h : NewP w0 e w1) :
    ∃ p, e = .returned (.pointer (some ⟨p, 0, none⟩)) ∧ PairsP W 0 p w1.heap.size p w1.heap.size led0 led0 (w1.alloc (.cells #[.slice none 0 0, .slice none 0 0, .slice none 0 0, .int .i64 0] 55)) := by
  obtain ⟨p, F, rfl, m1, hn, hb⟩ := LM.begin h
  exact ⟨p, rfl, F, F, Good.led0, Good.led0, m1, m1, .inl ⟨rfl, rfl, rfl⟩, fun i hi => Nat.le_trans hW.size (hn i hi), fun i hi => Nat.le_trans hW.size (hn i hi), hW.trans (hb.mono hW.size)⟩
/-- The legs of a call that came in lie in blocks that were there. -/
theorem legs_block {W : World} {B : Option Addr} {l : List Leg} (h : LegsIn W B l) : 0 < (legsC l).length → ∀ ad, B = some ad → ad.block < W.heap.size := fun hn ad he => by
  obtain ⟨a, ha, hc⟩ := h hn
  rw [he] at ha
  have ha := Option.some.inj ha
  subst ha
  have h0 := hc 0 _ (List.getElem?_eq_getElem hn)
  have := World.block_lt_of_cell? W _ h0
  rwa [add_block] at this
end Go.Proofs.Ytmlcojhanimnpaa

namespace Go.Proofs.Ytmlcojhanimnpaa
open Go.RowKit

set_option maxRecDepth 100000 in
set_option maxHeartbeats 8000000 in
theorem plays_walk (l : List OpR) (A : Option Addr) (c : Nat) (W : World) (hl : l.length ≤ reachBytes) (hA : OpsIn W A l) (hwf : ∀ x ∈ l, OpWf x) :
    Calls Try.prog 5 #[.slice A l.length c] W fun e w' => e = .returned (.bool true) ∧ Below W.heap.size W w' := by
  unfold reachBytes at hl
  have HLG := Lib.hid (large_any l A c W (by omega) hA hwf)
  have HA := Lib.hid hA
  have HWF := Lib.hid hwf
  clear hA hwf
  go_enter Try.func5, Try.ntmps5
  go_wp2_with fail
  refine HLG.out.mono ?_
  rintro e w1 ⟨⟨b, rfl, hb⟩, hbw⟩
  have HB1 := Lib.hid hbw
  have HLB := Lib.hid hb
  clear hb hbw
  cases b with
  | true =>
    go_wp2_with fail
    refine (works_any _).mono ?_
    rintro e w2 ⟨rfl, hb2⟩
    have HB2 := Lib.hid (HB1.out.trans (hb2.mono HB1.out.size))
    clear hb2
    go_wp2_with fail
    go_ret
    exact ⟨rfl, HB2.out⟩
  | false =>
    have hlen := (HLB.out rfl).1
    have HLEG := Lib.hid (HLB.out rfl).2
    clear hl
    go_wp2_with fail
    refine (new_any _).mono ?_
    rintro e w2 hN
    obtain ⟨p, rfl, hP⟩ := PairsP.begin HB1.out hN
    have HP := Lib.hid hP
    clear hP hN
    go_wp2_with fail
    go_loopw [3, 4, 5, 6, 7] (fun a b a2 b2 i wr => ∃ (k p q p2 q2 : Nat) (s s2 : Led), k ≤ l.length ∧ i = .int .i64 k ∧ a = .pointer (some ⟨p, 0, none⟩) ∧ b = .pointer (some ⟨q, 0, none⟩) ∧ a2 = .pointer (some ⟨p2, 0, none⟩) ∧ b2 = .pointer (some ⟨q2, 0, none⟩) ∧ PairsP W k p q p2 q2 s s2 wr) (fun _ _ _ _ i _ => l.length - (intOf i).toNat)
    case atStart => exact ⟨0, _, _, _, _, _, _, Nat.zero_le _, rfl, rfl, rfl, rfl, rfl, HP.out⟩
    case round =>
      obtain ⟨k, p, q, p2, q2, s, s2, hk, rfl, rfl, rfl, rfl, rfl, hP⟩ := hrel
      have HP := Lib.hid hP
      have HBR := Lib.hid hP.world
      clear hP
      by_cases hlt : k < l.length
      · obtain ⟨ad, B, ca, rfl, q0, q1, q2', q3, q4, q5, q6, q7, q8⟩ := HA.out.look hlt
        have hx := HWF.out _ (List.getElem_mem hlt)
        have hle := HLEG.out _ (List.getElem_mem hlt)
        obtain ⟨X, hX⟩ : ∃ X, l[k] = X := ⟨_, rfl⟩
        rw [hX] at q0 q1 q2' q3 q4 q5 q6 q7 q8 hx hle
        have HX := Lib.hid hx
        have HLE := Lib.hid hle
        have hk0 := hx.k0
        have hm : Int.tmod X.kind 11 = X.kind % 11 := Int.tmod_eq_emod_of_nonneg hk0
        have c0 := cell_below HBR.out q0
        by_cases h9 : X.kind % 11 = 9
        · have t9 : Int.tmod X.kind 11 = 9 := by rw [hm]; exact h9
          clear hx hle hX q0 q1 q2' q3 q4 q5 q6 q7 q8 hk0 hm h9
          go_wp2_with fail
          refine HP.out.copyL.mono ?_
          rintro e w3 hC
          have hC' := hC
          obtain ⟨p', -, -, -, -, rfl, -⟩ := hC'
          have HC := Lib.hid hC
          have HP3 := Lib.hid (HP.out.below hC.below)
          clear hC c0
          go_wp2_with fail
          refine HP3.out.rcopy.mono ?_
          rintro e w4 hR
          have hR' := hR
          obtain ⟨q', -, -, -, -, rfl, -⟩ := hR'
          have HP4 := Lib.hid (HP.out.copies HC.out hR)
          clear hR
          go_wp2_with fail
          refine HP4.out.same1.mono ?_
          rintro e w5 ⟨rfl, hP5⟩
          have HP5 := Lib.hid hP5
          clear hP5
          go_wp2_with fail
          refine HP5.out.same1.mono ?_
          rintro e w6 ⟨rfl, hP6⟩
          have HP6 := Lib.hid hP6
          clear hP6
          go_wp2_with fail
          go_roundw
          case rel => exact ⟨k + 1, _, _, _, _, _, _, by omega, by go_num, rfl, rfl, rfl, rfl, HP6.out⟩
          case measure => simp [intOf]; omega
        · by_cases h10 : X.kind % 11 = 10
          · have t9 : ¬ Int.tmod X.kind 11 = 9 := by rw [hm]; exact h9
            have t10 : Int.tmod X.kind 11 = 10 := by rw [hm]; exact h10
            have HP4 := Lib.hid HP.out.back
            clear hx hle hX q0 q1 q2' q3 q4 q5 q6 q7 q8 hk0 hm h9 h10
            go_wp2_with fail
            refine HP4.out.same1.mono ?_
            rintro e w5 ⟨rfl, hP5⟩
            have HP5 := Lib.hid hP5
            clear hP5 c0
            go_wp2_with fail
            refine HP5.out.same1.mono ?_
            rintro e w6 ⟨rfl, hP6⟩
            have HP6 := Lib.hid hP6
            clear hP6
            go_wp2_with fail
            go_roundw
            case rel => exact ⟨k + 1, _, _, _, _, _, _, by omega, by go_num, rfl, rfl, rfl, rfl, HP6.out⟩
            case measure => simp [intOf]; omega
          · have t9 : ¬ Int.tmod X.kind 11 = 9 := by rw [hm]; exact h9
            have t10 : ¬ Int.tmod X.kind 11 = 10 := by rw [hm]; exact h10
            have hpl := HP.out.plays (by omega) X B ca HX.out (by omega) (Cells.below q8 HBR.out) (legs_block q8) h9 h10
            have HPL := Lib.hid hpl
            have c1 := cell_below HBR.out q1
            have c2 := cell_below HBR.out q2'
            have c3 := cell_below HBR.out q3
            have c4 := cell_below HBR.out q4
            have c5 := cell_below HBR.out q5
            have c6 := cell_below HBR.out q6
            have c7 := cell_below HBR.out q7
            clear hx hle hX q0 q1 q2' q3 q4 q5 q6 q7 q8 hk0 hm h9 h10 hpl
            go_wp2_with fail
            refine HPL.out.mono ?_
            rintro e w3 ⟨rfl, s', s2', hP4⟩
            have HP4 := Lib.hid hP4
            clear hP4 c0 c1 c2 c3 c4 c5 c6 c7
            go_wp2_with fail
            refine HP4.out.same1.mono ?_
            rintro e w5 ⟨rfl, hP5⟩
            have HP5 := Lib.hid hP5
            clear hP5
            go_wp2_with fail
            refine HP5.out.same1.mono ?_
            rintro e w6 ⟨rfl, hP6⟩
            have HP6 := Lib.hid hP6
            clear hP6
            go_wp2_with fail
            go_roundw
            case rel => exact ⟨k + 1, _, _, _, _, _, _, by omega, by go_num, rfl, rfl, rfl, rfl, HP6.out⟩
            case measure => simp [intOf]; omega
      · go_wp2_with fail
        refine HP.out.same2.mono ?_
        rintro e w3 ⟨rfl, hP3⟩
        have HB3 := Lib.hid hP3.world
        clear hP3
        go_wp2_with fail
        refine (works_any _).mono ?_
        rintro e w4 ⟨rfl, hb4⟩
        have HB4 := Lib.hid (HB3.out.trans (hb4.mono HB3.out.size))
        clear hb4
        go_wp2_with fail
        go_ret
        exact ⟨rfl, HB4.out⟩
end Go.Proofs.Ytmlcojhanimnpaa

namespace Go.Proofs.Ytmlcojhanimnpaa
open Go.ChangeShapes Go.WideShapes Go.ChangeAt Go.RowKit Go.WideMaps Go.WideElems

set_option maxRecDepth 100000 in
theorem idealPlays_lifted (os : Os) (started : os.Started) (H : Type) (enc : TypeId × Value → H) :
    ReturnsInHanded {} Try.checked os 5 .any (Rows.idealPlaysSpec.pre6 enc Try.prog Try.f5 Rows.idealPlaysRow.domain false) (Rows.idealPlaysSpec.post enc Try.prog Try.f5 false true false false) := by
  refine returnsInHanded_of_change_sized (C := Try.checked) own started (by kernel_rfl) Try.func5
    (ChangeSpec.witness6 (enc := enc) (C := Try.checked) false ⟨#[], #[.slice none 0 0], []⟩ 8 (by kernel_rfl) (by kernel_rfl) (by kernel_rfl) (by kernel_rfl)) ?_
  intro W base args ds gs before hval0 hW _ hz0 _
  have hval : ∀ (j : Nat) t v, Try.f5.params[j]? = some t → args[j]? = some v → Value.okWide Try.prog W .any base t v := hval0
  have hz1 : ∀ n ∈ DataW.weightsEach Try.prog (Try.f5.params.toList ++ Rows.idealPlaysSpec.plain.varTypes Try.prog) (ds ++ gs), n ≤ reachBytes := fun n hn => of_decide_eq_true (List.all_eq_true.1 hz0 n hn)
  have hW' := hW
  obtain ⟨p, q, hA0, hV, rfl, _, _⟩ := hW
  have hA : DataW.TrodAll enc Try.prog W 0 (fun _ => true) true Try.f5.params.toList args.toList ds p := hA0
  rw [Try.params5] at hA hval
  obtain ⟨v0, vs0, d0, ds0, p0, q0, hargs, rfl, rfl, h0, r0⟩ := trodAll_cons hA
  obtain ⟨rfl, rfl, rfl⟩ := trodAll_nil r0
  obtain rfl : args = #[v0] := by cases args; simp_all
  obtain ⟨rfl, rfl⟩ := trodVars_none hV
  have z0 := weightsEach_le hz1 0 22 d0 rfl rfl
  obtain ⟨A0, a0, c0, rfl, hcell0, hm0, hw0⟩ := open_ops (hval 0 22 v0 rfl rfl) h0 z0
  refine (plays_walk a0 A0 c0 W hm0 hcell0 hw0).mono fun e W' ⟨he, hb⟩ => ?_
  subst he
  refine ⟨_, rfl, post_true hW' rfl ?_ rfl rfl hb⟩
  rw [Try.params5]
  intro t ht
  obtain rfl : t = 22 := by simpa using ht
  exact ⟨by kernel_rfl, of_decide_eq_true (by kernel_rfl)⟩

theorem idealPlays_holds : Rows.IdealPlaysSaid :=
  OpenClaim.holds_of_wide 5 Try.f5 rfl rfl rfl rfl rfl rfl rfl ⟨rfl, rfl, rfl, rfl, rfl⟩ rfl rfl rfl rfl rfl (by kernel_rfl) Try.func5 (by kernel_rfl)
    (of_decide_eq_true (by kernel_rfl)) (by unfold Func.isWrapper; first | (rw [if_pos (by decide +kernel)]; kernel_rfl) | (rw [if_neg (by decide +kernel)]; exact ⟨rfl, rfl⟩))
    (fun os started H enc _ => idealPlays_lifted os started H enc)
#print axioms idealPlays_holds
end Go.Proofs.Ytmlcojhanimnpaa
