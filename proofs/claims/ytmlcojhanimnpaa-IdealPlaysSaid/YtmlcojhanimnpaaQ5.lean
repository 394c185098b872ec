/- The document's Worth. · The document's Close: plain part. · The document's Close: its walk. -/
import Derived.Test.YtmlcojhanimnpaaQ4
import Derived.Test.YtmlcojhanimnpaaJ3
import Derived.BigQuiet
import Derived.Deep.QuietTactic
namespace Go.Proofs.Ytmlcojhanimnpaa
open Go.RowKit

def hasF (q : ByteArray) (c : Chan) : Int := (c.has q).getD 0
theorem hasF_a {q : ByteArray} {c : Chan} (h : c.a = q) : hasF q c = c.hasA := by unfold hasF Chan.has; rw [if_pos h.symm]; rfl
theorem hasF_b {q : ByteArray} {c : Chan} (h : c.a ≠ q) (h2 : c.b = q) : hasF q c = c.hasB := by unfold hasF Chan.has; rw [if_neg (fun e => h e.symm), if_pos h2.symm]; rfl
theorem hasF_n {q : ByteArray} {c : Chan} (h : c.a ≠ q) (h2 : c.b ≠ q) : hasF q c = 0 := by unfold hasF Chan.has; rw [if_neg (fun e => h e.symm), if_neg (fun e => h2 e.symm)]; rfl
theorem rchs_ok {s : Led} (hs : Inv s) {x : Chan} (hx : x ∈ chs s) : ∃ k, ChanOk s.coins (heldF s.holds) k x := by
  have h1 := (chs_perm hs).mem_iff.1 hx
  obtain ⟨p, hp, rfl⟩ := List.mem_map.1 h1
  exact ⟨p.1, mem_ch hs p hp⟩
theorem hasF_pos {s : Led} (hs : Inv s) (q : ByteArray) : ∀ x ∈ chs s, 0 ≤ hasF q x := fun x hx => by
  obtain ⟨k, ho⟩ := rchs_ok hs hx
  unfold hasF
  cases hx2 : x.has q with
  | none => simp
  | some n => simpa using has_nonneg ho hx2
set_option maxRecDepth 100000 in
set_option maxHeartbeats 8000000 in
theorem rworth_any (p : Nat) (va vc vh : Value) (vs : List Value) (s : Led) (q : ByteArray) (w : World) (hs : Inv s) (h : RLed w p va vc vh vs s) :
    Calls Try.prog 53 #[.pointer (some ⟨p, 0, none⟩), .string q] w fun e w' => e = .returned (worthV s q) ∧ w = w' := by
  obtain ⟨R, hR⟩ : ∃ R, worthV s q = R := ⟨_, rfl⟩
  rw [hR]
  have HR := Lib.hid hR
  clear hR
  cases hm : mget s.coins q with
  | none =>
    have HF := Lib.hid (rfind_none hs h hm)
    have hr : R = .tuple #[.int .i64 0, .bool false] := by rw [← HR.out]; unfold worthV; rw [if_neg (by rw [hm]; simp)]
    rw [hr]
    clear hs h hm hr
    go_enter Try.func53, Try.ntmps53
    go_wp2_with fail
    refine HF.out.mono ?_
    rintro e w1 ⟨rfl, rfl⟩
    go_wp2_with fail
    go_ret2
    exact ⟨rfl, rfl⟩
  | some g =>
    have hth : (mget s.coins q).isSome = true := by rw [hm]; rfl
    obtain ⟨i, hi, h1, -, h2⟩ := acc_place hs.nk hth
    have HF := Lib.hid (rfind_some hs h hi h1 h2)
    have hcq : cq s q = g := by unfold cq; rw [hm]; rfl
    have hw := worth_le hs hth
    have htot := hs.tot
    have hw0 : worth s q = g * 1000 + asum (fun c => (c.has q).getD 0) s.chans + holdSum (fun x => x.src == q) s.holds := by unfold worth; rw [hm]; rfl
    have hpos : ∀ z ∈ s.holds, ∀ y ∈ z.legs, 1 ≤ y.amt := fun z hz y hy => (hs.hs z hz y hy).lo
    have hhn := holdSum_nonneg (fun x => x.src == q) s.holds hpos
    have hga : 0 ≤ g := hs.pos _ _ hm
    have hcs : csum (hasF q) (chs s) = asum (fun c => (c.has q).getD 0) s.chans := csum_chs hs (hasF q)
    have hcp := hasF_pos hs q
    obtain ⟨D1, hD1⟩ : ∃ D, asum (fun c => (c.has q).getD 0) s.chans = D := ⟨_, rfl⟩
    obtain ⟨D2, hD2⟩ : ∃ D, holdSum (fun x => x.src == q) s.holds = D := ⟨_, rfl⟩
    rw [hD1] at hw0 hcs
    rw [hD2] at hw0 hhn
    have hD1p : 0 ≤ D1 := by
      have := csum_take (hasF q) (chs s) hcp (chs s).length
      rw [List.take_length] at this
      omega
    unfold maxCoin at htot
    have hBD : g * 1000 + D1 + D2 ≤ 2100000000000000000 := by omega
    have hr : R = .tuple #[.int .i64 (g * 1000 + D1 + D2), .bool true] := by rw [← HR.out]; unfold worthV; rw [if_pos hth, hw0]
    rw [hr]
    obtain ⟨e0, e1, e2, -⟩ := RAt.cell h
    obtain ⟨Aa, ca, rfl, -, hca⟩ := RAt.accs h
    obtain ⟨Ac, cc, rfl, -, hcc⟩ := RAt.chs h
    obtain ⟨Ah, ch, rfl, -, hch⟩ := own_shape h.oh
    obtain ⟨aa, rfl, -, c1⟩ := acc_look hca hi
    rw [h1, hcq] at c1
    have hl1 := accs_len s
    have hl2 := chs_len s
    have hk1 := hs.lk
    have hk2 := hs.lc
    have hk3 := hs.lh
    have hA1 : (accs s).length ≤ 64 := by omega
    have hC1 : (chs s).length ≤ 256 := by omega
    have hg1 : g * 1000 ≤ 2100000000000000000 := by omega
    have H := Lib.hid h
    have HS := Lib.hid hs
    have HCC := Lib.hid hcc
    have HCH := Lib.hid hch
    have HCS := Lib.hid hcs
    have HCP := Lib.hid hcp
    have HPOS := Lib.hid hpos
    have HD2 := Lib.hid hD2
    clear hs h hm hr hth h1 h2 hcq hw htot hw0 hpos hcs hcp hca hcc hch hl1 hl2 hk1 hk2 hD1 hD2
    go_enter Try.func53, Try.ntmps53
    go_wp2_with fail
    refine HF.out.mono ?_
    rintro e w1 ⟨rfl, rfl⟩
    go_wp2_with fail
    go_loop [7, 8] (fun n i => ∃ k : Nat, k ≤ (chs s).length ∧ i = .int .i64 k ∧ n = .int .i64 (g * 1000 + csum (hasF q) ((chs s).take k))) (fun _ i => (chs s).length - (intOf i).toNat)
    case atStart => exact ⟨0, Nat.zero_le _, rfl, by simp [csum]⟩
    case round =>
      obtain ⟨k, hk, rfl, hn⟩ := hrel
      by_cases hlt : k < (chs s).length
      · obtain ⟨ad, rfl, -, d1, d2, -, d4, d5⟩ := ch_look HCC.out hlt
        have u1 := csum_take (hasF q) (chs s) HCP.out (k + 1)
        have u2 := csum_step (hasF q) (chs s) hlt
        have u3 := csum_take (hasF q) (chs s) HCP.out k
        have u5 := HCP.out _ (List.getElem_mem hlt)
        obtain ⟨kx, ho⟩ := rchs_ok HS.out (List.getElem_mem hlt)
        have hne := ho.ne
        rw [HCS.out] at u1
        obtain ⟨X, hX⟩ : ∃ X, (chs s)[k] = X := ⟨_, rfl⟩
        obtain ⟨S, hS⟩ : ∃ S, csum (hasF q) ((chs s).take k) = S := ⟨_, rfl⟩
        rw [hX] at d1 d2 d4 d5 u2 u5 hne
        rw [hS] at u2 u3 hn
        subst hn
        have HU := Lib.hid u2
        by_cases ha : X.a = q
        · have hb : X.b ≠ q := fun e => hne (ha.trans e.symm)
          rw [hasF_a ha] at u2 u5
          have HU2 := Lib.hid u2
          have t1 := tl_t ha
          have t2 := tl_f hb
          have g1 : 0 ≤ g * 1000 + S + X.hasA := by omega
          have g2 : g * 1000 + S + X.hasA ≤ 2100000000000000000 := by omega
          clear u1 u2 u3 hX hS ho hne ha hb
          go_wp2_with fail
          go_round
          case rel => exact ⟨k + 1, by omega, by go_num, by rw [HU2.out]; congr 1; omega⟩
          case measure => simp [intOf]; omega
        · by_cases hb : X.b = q
          · rw [hasF_b ha hb] at u2 u5
            have HU2 := Lib.hid u2
            have t1 := tl_f ha
            have t2 := tl_t hb
            have g1 : 0 ≤ g * 1000 + S + X.hasB := by omega
            have g2 : g * 1000 + S + X.hasB ≤ 2100000000000000000 := by omega
            clear u1 u2 u3 hX hS ho hne ha hb
            go_wp2_with fail
            go_round
            case rel => exact ⟨k + 1, by omega, by go_num, by rw [HU2.out]; congr 1; omega⟩
            case measure => simp [intOf]; omega
          · rw [hasF_n ha hb] at u2 u5
            have HU2 := Lib.hid u2
            have t1 := tl_f ha
            have t2 := tl_f hb
            clear u1 u2 u3 hX hS ho hne ha hb
            go_wp2_with fail
            go_round
            case rel => exact ⟨k + 1, by omega, by go_num, by rw [HU2.out]; congr 1; omega⟩
            case measure => simp [intOf]; omega
      · have hte : (chs s).take k = chs s := List.take_of_length_le (by omega)
        rw [hte, HCS.out] at hn
        subst hn
        clear hte c1
        go_wp2_with fail
        go_loop [7, 9] (fun n i => ∃ k : Nat, k ≤ s.holds.length ∧ i = .int .i64 k ∧ n = .int .i64 (g * 1000 + D1 + holdSum (fun x => x.src == q) (s.holds.take k))) (fun _ i => s.holds.length - (intOf i).toNat)
        case atStart => exact ⟨0, Nat.zero_le _, rfl, by simp [holdSum]⟩
        case round =>
          obtain ⟨k, hk, rfl, hn⟩ := hrel
          by_cases hlt : k < s.holds.length
          · obtain ⟨z, hz⟩ : ∃ z, s.holds[k] = z := ⟨_, rfl⟩
            obtain ⟨B, cb, -, hv1, hown⟩ := H.out.hv.at_ k hlt
            obtain ⟨ad, rfl, hcx⟩ := HCH.out (by rw [H.out.hv.len]; omega)
            have f1 : w.cell? ⟨(ad.add (k * 2)).block, (ad.add (k * 2)).off + 1, none⟩ = some (.slice B z.legs.length cb) := by rw [next_add _ _ _ (by decide), ← hz]; exact hcx _ _ hv1
            have hlegs : LegsIn w B z.legs := by
              obtain ⟨B2, c2, hv2, -, hc2⟩ := own_shape hown
              injection hv2 with h4 h5 h6
              subst h4
              rw [← hz]; exact hc2
            have hll := HS.out.hl _ (List.getElem_mem hlt)
            rw [hz] at hll
            have HZ := Lib.hid hz
            obtain ⟨M, hM⟩ : ∃ M, holdSum (fun x => x.src == q) (s.holds.take k) = M := ⟨_, rfl⟩
            rw [hM] at hn
            subst hn
            have hall := fun t => holdSum_all (fun x => x.src == q) s.holds HPOS.out k t hlt
            rw [hM, HD2.out, hz] at hall
            have hst := holdSum_step (fun x => x.src == q) s.holds k hlt
            rw [hM, hz] at hst
            have HST := Lib.hid hst
            have HALL := Lib.hid hall
            have HLG := Lib.hid hlegs
            clear hz hv1 hown hcx hlegs hM hall hst
            go_wp2_with fail
            go_loop [7, 10] (fun n i => ∃ t : Nat, t ≤ z.legs.length ∧ i = .int .i64 t ∧ n = .int .i64 (g * 1000 + D1 + M + legSum (fun x => x.src == q) (z.legs.take t))) (fun _ i => z.legs.length - (intOf i).toNat)
            case atStart => exact ⟨0, Nat.zero_le _, rfl, by simp [legSum]⟩
            case round =>
              obtain ⟨t, ht, rfl, hn⟩ := hrel
              by_cases htl : t < z.legs.length
              · obtain ⟨la, rfl, -, l1, l2⟩ := HLG.out.look htl
                obtain ⟨v1, v2, v3⟩ := HALL.out t
                obtain ⟨-, v5, v6⟩ := HALL.out (t + 1)
                have u4 := legSum_step (fun x => x.src == q) z.legs t htl
                have u5 : 1 ≤ z.legs[t].amt := HPOS.out z (by rw [← HZ.out]; exact List.getElem_mem hlt) _ (List.getElem_mem htl)
                obtain ⟨Y, hY⟩ : ∃ Y, z.legs[t] = Y := ⟨_, rfl⟩
                rw [hY] at l1 l2 u4 u5
                obtain ⟨N, hN⟩ : ∃ N, legSum (fun x => x.src == q) (z.legs.take t) = N := ⟨_, rfl⟩
                rw [hN] at v2 v3 u4 hn
                subst hn
                by_cases hq : Y.src = q
                · have hbq : (Y.src == q) = true := (ch_beq _ _).2 hq
                  simp only [hbq, if_true] at u4
                  have g1 : 0 ≤ g * 1000 + D1 + M + N + Y.amt := by omega
                  have g2 : g * 1000 + D1 + M + N + Y.amt ≤ 2100000000000000000 := by omega
                  have he := tl_t hq
                  have HU4 := Lib.hid u4
                  clear v1 v2 v3 v5 v6 u4 hY hN hbq hq
                  go_wp2_with fail
                  go_round
                  case rel => exact ⟨t + 1, by omega, by go_num, by rw [HU4.out]; congr 1; omega⟩
                  case measure => simp [intOf]; omega
                · have hbq : (Y.src == q) = false := (ch_bne _ _).2 hq
                  simp only [hbq, Bool.false_eq_true, if_false] at u4
                  have he := tl_f hq
                  have HU4 := Lib.hid u4
                  clear v1 v2 v3 v5 v6 u4 hY hN hbq hq
                  go_wp2_with fail
                  go_round
                  case rel => exact ⟨t + 1, by omega, by go_num, by rw [HU4.out]; congr 1; omega⟩
                  case measure => simp [intOf]; omega
              · have hte : z.legs.take t = z.legs := List.take_of_length_le (by omega)
                rw [hte] at hn
                subst hn
                go_wp2_with fail
                go_round
                case rel => exact ⟨k + 1, by omega, by go_num, by rw [HST.out]; congr 1; omega⟩
                case measure => simp [intOf]; omega
          · have hte : s.holds.take k = s.holds := List.take_of_length_le (by omega)
            rw [hte, HD2.out] at hn
            subst hn
            clear hte
            go_wp2_with fail
            go_ret2
            exact ⟨rfl, rfl⟩
end Go.Proofs.Ytmlcojhanimnpaa

namespace Go.Proofs.Ytmlcojhanimnpaa
open Go.RowKit

theorem tch_del {l : List (ByteArray × Chan)} (h : CHok l) {name : ByteArray} (hm : (mget l name).isSome = true) {i : Nat} (hi : i < (skeys l).length) (hk : (skeys l)[i] = name) : tch (mdel l name) = (tch l).eraseIdx i :=
  told_del (g := fun _ c => c) (d := chan0) h.nc hi hk hm
/-- The rows of channels without one. -/
theorem flatTake {α : Type} (f : α → List Value) (n : Nat) (hf : ∀ x, (f x).length = n) : ∀ (l : List α) (k : Nat), (l.flatMap f).take (k * n) = (l.take k).flatMap f
  | [], k => by simp
  | x :: r, 0 => by simp
  | x :: r, k + 1 => by
    rw [List.flatMap_cons, List.take_succ_cons, List.flatMap_cons, List.take_append, hf]
    rw [show (k + 1) * n - n = k * n by rw [Nat.add_mul]; omega, flatTake f n hf r k]
    rw [List.take_of_length_le (by rw [hf, Nat.add_mul]; omega)]
theorem flatDrop {α : Type} (f : α → List Value) (n : Nat) (hf : ∀ x, (f x).length = n) : ∀ (l : List α) (k : Nat), (l.flatMap f).drop (k * n) = (l.drop k).flatMap f
  | [], k => by simp
  | x :: r, 0 => by simp
  | x :: r, k + 1 => by
    rw [List.flatMap_cons, List.drop_succ_cons, List.drop_append, hf]
    rw [show (k + 1) * n - n = k * n by rw [Nat.add_mul]; omega, flatDrop f n hf r k]
    rw [List.drop_of_length_le (by rw [hf, Nat.add_mul]; omega), List.nil_append]
theorem rclose_fin {w wr w4 : World} {p n i c4 : Nat} {A4 : Option Addr} {va vc vh : Value} {vs xs : List Value} {A : List (ByteArray × Int)} {C C' : List Chan} {H : List HoldR} {n1 : Int}
    (hF : Fr (fpR p va vc vh) w wr) (hL : RAt wr p va vc vh vs A C H n1) (hb4 : Below wr.heap.size wr w4) (hi : i < C.length)
    (hown : w4.ownsRow wr.heap.size 95 6 (.slice A4 n c4) n xs) (hx : xs = (C.flatMap chC).take (i * 6) ++ (C.flatMap chC).drop ((i + 1) * 6)) (hC : C' = C.eraseIdx i) (hn : n = C.length - 1) :
    RAt (w4.setCell ⟨p, 1, none⟩ (.slice A4 n c4)) p va (.slice A4 n c4) vh vs A C' H n1 ∧ Fr (fpR p va vc vh) w (w4.setCell ⟨p, 1, none⟩ (.slice A4 n c4)) ∧ ∀ g ∈ fpR p va (.slice A4 n c4) vh, g ∈ fpR p va vc vh ∨ w.heap.size ≤ g := by
  have L4 := hL.below hb4
  have hoth : ∀ g, g ≠ p → (w4.setCell ⟨p, 1, none⟩ (.slice A4 n c4)).heap[g]? = w4.heap[g]? := fun g hg => Below.heap_setCell w4 _ _ g hg
  have hk : ∀ (g : Nat) (cs : Array Value) (T : TypeId), w4.heap[g]? = some (.cells cs T) → T ≠ 55 → g ≠ p := fun g cs T h1 h2 e => by
    subst e
    rw [L4.blk] at h1
    injection h1 with h1
    injection h1 with h1 h4
    exact h2 h4.symm
  have hp : p < wr.heap.size := lt_of_block hL.blk
  have hlen : C'.length = n := by rw [hC, List.length_eraseIdx_of_lt hi, hn]
  have hle : C' = C.take i ++ C.drop (i + 1) := by rw [hC]; exact List.eraseIdx_eq_take_drop_succ ..
  have hxs : xs = C'.flatMap chC := by rw [hx, hle, List.flatMap_append, flatTake chC 6 (fun _ => rfl), flatDrop chC 6 (fun _ => rfl)]
  have hblk : ∀ g, (Value.slice A4 n c4).ownBlock = some g → wr.heap.size ≤ g := fun g hg => (World.ownsRow.lt hown g hg).1
  have hsz := hF.size
  refine ⟨⟨(setCell_cells L4.blk 1 _).trans rfl, ?_, ?_, ?_, ?_⟩, ?_, ?_⟩
  · exact ownsRow_block L4.oa fun g hg => by obtain ⟨c, hc⟩ := row_kind L4.oa hg; exact hoth g (hk g _ _ hc (by decide))
  · rw [hlen, ← hxs]
    exact ownsRow_block (own_zero hown) fun g hg => hoth g (by have := hblk g hg; omega)
  · exact ownsRow_block L4.oh fun g hg => by obtain ⟨c, hc⟩ := row_kind L4.oh hg; exact hoth g (hk g _ _ hc (by decide))
  · exact L4.hv.kept fun g cur hg => hoth g (hk g _ _ hg (by decide))
  · have f2 : Fr [p] w4 (w4.setCell ⟨p, 1, none⟩ (.slice A4 n c4)) := ⟨rfl, rfl, rfl, by simp [World.setCell], fun g _ hg => hoth g (by simpa using hg)⟩
    exact (hF.trans (Fr.below (F := []) hb4) fun i hi _ => by cases hi).trans f2 fun i hi _ => by simp at hi; subst hi; simp [fpR]
  · intro g hg
    simp only [fpR, List.mem_cons, List.mem_append] at hg ⊢
    rcases hg with rfl | hg | hg | hg
    · exact .inl (.inl rfl)
    · exact .inl (.inr (.inl hg))
    · have := hblk g (by simpa using hg)
      exact .inr (by omega)
    · exact .inl (.inr (.inr (.inr hg)))
end Go.Proofs.Ytmlcojhanimnpaa

namespace Go.Proofs.Ytmlcojhanimnpaa
open Go.RowKit

set_option maxRecDepth 100000 in
set_option maxHeartbeats 8000000 in
theorem rclose_any (p : Nat) (va vc vh : Value) (vs : List Value) (s : Led) (name : ByteArray) (cost : Int) (w : World) (hs : Inv s) (h : RLed w p va vc vh vs s) :
    Calls Try.prog 52 #[.pointer (some ⟨p, 0, none⟩), .string name, .int .i64 cost] w (ROp w p va vc vh (closeCh s name cost).1 (closeCh s name cost).2) := by
  obtain ⟨R, hR⟩ : ∃ R, closeCh s name cost = R := ⟨_, rfl⟩
  rw [hR]
  have HR := Lib.hid hR
  have hck := CHok.led hs
  have h' : RAt w p va vc vh vs (accs s) (tch s.chans) s.holds s.last := h
  clear hR
  cases hm : mget s.chans name with
  | none =>
    have HF := Lib.hid (rchl_none h' hck hm)
    have hr : R = (5, s) := by rw [← HR.out]; unfold closeCh; rw [hm]
    have H := Lib.hid h
    rw [hr]
    clear hs h h' hm hr hck
    go_enter Try.func52, Try.ntmps52
    go_wp2_with fail
    refine HF.out.mono ?_
    rintro e w1 ⟨rfl, rfl⟩
    go_wp2_with fail
    go_ret
    exact ROp.same H.out (Below.refl _ _)
  | some X =>
    obtain ⟨i, hi, hX, hXn, ⟨hi2, hki⟩, hfst⟩ := tch_place hck hm
    have HF := Lib.hid (rchl_some h' hck hi (by rw [hX]; exact hXn) hfst)
    cases hcost : okCoin cost with
    | false =>
      have hr : R = (40, s) := by rw [← HR.out]; unfold closeCh; rw [hm]; simp only []; rw [if_pos hcost]
      have H := Lib.hid h
      have HO := Lib.hid hcost
      rw [hr]
      clear hs h h' hm hr hck hX hXn hfst hcost
      go_enter Try.func52, Try.ntmps52
      go_wp2_with fail
      refine HF.out.mono ?_
      rintro e w1 ⟨rfl, rfl⟩
      go_wp2_with fail
      refine (rcoins_any cost _).mono ?_
      rw [HO.out]
      rintro e w1 ⟨rfl, rfl⟩
      go_wp2_with fail
      go_ret
      exact ROp.same H.out (Below.refl _ _)
    | true =>
      have hon := okCoin_iff.1 hcost
      unfold maxCoin at hon
      obtain ⟨n0, n1⟩ := hon
      obtain ⟨e0, e1, e2, -⟩ := RAt.cell h
      obtain ⟨Aa, ca, rfl, -, hca⟩ := RAt.accs h
      obtain ⟨Ac, cc, hvc, -, hcc⟩ := RAt.chs h'
      subst hvc
      obtain ⟨Ah, ch, rfl, -, hch⟩ := own_shape h.oh
      have hlc := hck.len
      have hlt0 := tch_len s.chans
      have hl3 := hs.lh
      have hC1 : (tch s.chans).length ≤ 256 := by omega
      have H := Lib.hid h
      have HP := Lib.hid h'
      have HS := Lib.hid hs
      have HCK := Lib.hid hck
      have HO := Lib.hid hcost
      have HM := Lib.hid hm
      have HX := Lib.hid hX
      have HCC := Lib.hid hcc
      have HCH := Lib.hid hch
      have HCA := Lib.hid hca
      clear hs h h' hm hck hX hfst hcost hcc hch hlc hlt0 hca
      go_enter Try.func52, Try.ntmps52
      go_wp2_with fail
      refine HF.out.mono ?_
      rintro e w1 ⟨rfl, rfl⟩
      go_wp2_with fail
      refine (rcoins_any cost _).mono ?_
      rw [HO.out]
      rintro e w1 ⟨rfl, rfl⟩
      go_wp2_with fail
      go_loop [8] (fun q => ∃ k : Nat, k ≤ s.holds.length ∧ q = .int .i64 k ∧ ∀ j (hj : j < s.holds.length), j < k → (s.holds[j].legs.any fun x => x.ch == name) = false) (fun q => s.holds.length - (intOf q).toNat)
      case atStart => exact ⟨0, Nat.zero_le _, rfl, fun j _ hj => absurd hj (Nat.not_lt_zero j)⟩
      case round =>
        obtain ⟨k, hk, rfl, hno⟩ := hrel
        have HNO := Lib.hid hno
        clear hno
        by_cases hlt : k < s.holds.length
        · obtain ⟨z, hz⟩ : ∃ z, s.holds[k] = z := ⟨_, rfl⟩
          obtain ⟨B, cb, -, hv1, hown⟩ := H.out.hv.at_ k hlt
          obtain ⟨ad, rfl, hcx⟩ := HCH.out (by rw [H.out.hv.len]; omega)
          have f1 : w.cell? ⟨(ad.add (k * 2)).block, (ad.add (k * 2)).off + 1, none⟩ = some (.slice B z.legs.length cb) := by rw [next_add _ _ _ (by decide), ← hz]; exact hcx _ _ hv1
          have hlegs : LegsIn w B z.legs := by
            obtain ⟨B2, c2, hv2, -, hc2⟩ := own_shape hown
            injection hv2 with h4 h5 h6
            subst h4
            rw [← hz]; exact hc2
          have hll := HS.out.hl _ (List.getElem_mem hlt)
          rw [hz] at hll
          have HZ := Lib.hid hz
          have HLG := Lib.hid hlegs
          clear hz hv1 hown hcx hlegs
          go_wp2_with fail
          go_loop [9] (fun q => ∃ t : Nat, t ≤ z.legs.length ∧ q = .int .i64 t ∧ ∀ j (hj : j < z.legs.length), j < t → z.legs[j].ch ≠ name) (fun q => z.legs.length - (intOf q).toNat)
          case atStart => exact ⟨0, Nat.zero_le _, rfl, fun j _ hj => absurd hj (Nat.not_lt_zero j)⟩
          case round =>
            obtain ⟨t, ht, rfl, hno2⟩ := hrel
            have HNO2 := Lib.hid hno2
            clear hno2
            by_cases htl : t < z.legs.length
            · obtain ⟨la, rfl, l0, -, -⟩ := HLG.out.look htl
              obtain ⟨Y, hY⟩ : ∃ Y, z.legs[t] = Y := ⟨_, rfl⟩
              rw [hY] at l0
              have HY := Lib.hid hY
              by_cases hq : Y.ch = name
              · have hany : heldOn s name = true := by
                  unfold heldOn
                  rw [List.any_eq_true]
                  refine ⟨z, by rw [← HZ.out]; exact List.getElem_mem hlt, ?_⟩
                  rw [List.any_eq_true]
                  exact ⟨Y, by rw [← hY]; exact List.getElem_mem htl, (ch_beq _ _).2 hq⟩
                have he := tl_t hq
                have hr : R = (4, s) := by rw [← HR.out]; unfold closeCh; rw [HM.out]; simp only []; rw [if_neg (by rw [HO.out]; simp), if_pos hany]
                have HRR := Lib.hid hr
                clear hY hq hany hr
                go_wp2_with fail
                go_ret
                rw [HRR.out]
                exact ROp.same H.out (Below.refl _ _)
              · have he := tl_f hq
                have HQ := Lib.hid hq
                clear hY hq
                go_wp2_with fail
                go_round
                case rel =>
                  refine ⟨t + 1, by omega, by go_num, fun j hj hjt => ?_⟩
                  by_cases e : j = t
                  · subst e; rw [HY.out]; exact HQ.out
                  · exact HNO2.out j hj (by omega)
                case measure => simp [intOf]; omega
            · go_wp2_with fail
              go_round
              case rel =>
                refine ⟨k + 1, by omega, by go_num, fun j hj hjt => ?_⟩
                by_cases e : j = k
                · subst e
                  rw [HZ.out, List.any_eq_false]
                  intro x hx
                  obtain ⟨j2, hj2, rfl⟩ := List.mem_iff_getElem.1 hx
                  have := HNO2.out j2 hj2 (by omega)
                  simpa [ch_beq] using this
                · exact HNO.out j hj (by omega)
              case measure => simp [intOf]; omega
        · have hany : heldOn s name = false := by
            unfold heldOn
            rw [List.any_eq_false]
            intro x hx
            obtain ⟨j, hj, rfl⟩ := List.mem_iff_getElem.1 hx
            rw [HNO.out j hj (by omega)]
            simp
          have HANY := Lib.hid hany
          clear hany
          obtain ⟨ad, rfl, d0, d1, d2, d3, d4, d5⟩ := ch_look HCC.out hi
          rw [HX.out] at d0 d1 d2 d3 d4 d5
          obtain ⟨a0, b0⟩ := HCK.out.lo _ _ HM.out
          obtain ⟨a1, b1⟩ := HCK.out.hi _ _ HM.out
          have hm0 : 0 ≤ cost * 1000 := by omega
          have hm1 : cost * 1000 ≤ 2100000000000000000 := by omega
          by_cases hf : X.hasA < cost * 1000
          · have hr : R = (170, s) := by rw [← HR.out]; unfold closeCh; rw [HM.out]; simp only []; rw [if_neg (by rw [HO.out]; simp), if_neg (by rw [HANY.out]; simp), if_pos hf]
            have HRR := Lib.hid hr
            clear hr
            go_wp2_with fail
            go_ret
            rw [HRR.out]
            exact ROp.same H.out ((Below.refl _ _).alloc (Nat.le_refl _) _)
          · go_wp2_with fail
            have hr : R = (0, { s with coins := closeTo s X cost, chans := mdel s.chans name }) := by
              rw [← HR.out]; unfold closeCh; rw [HM.out]; simp only []; rw [if_neg (by rw [HO.out]; simp), if_neg (by rw [HANY.out]; simp), if_neg (by omega)]
            have HRR := Lib.hid hr
            have ho := HS.out.ch _ _ HM.out
            have hab := ho.ne
            obtain ⟨i1, hi1, hg1, -, g1⟩ := acc_place HS.out.nk ho.ina
            obtain ⟨i2, hj2, hg2, -, g2⟩ := acc_place HS.out.nk ho.inb
            have hbW : Below w.heap.size w (w.alloc (.cells #[Value.string name, Value.string X.a, Value.string X.b, Value.int .i64 X.cap, Value.int .i64 X.hasA, Value.int .i64 X.hasB] 95)) := (Below.refl _ _).alloc (Nat.le_refl _) _
            have hnew := Go.heap_alloc_new w (.cells #[Value.string name, Value.string X.a, Value.string X.b, Value.int .i64 X.cap, Value.int .i64 X.hasA, Value.int .i64 X.hasB] 95)
            generalize hW : w.alloc (.cells #[Value.string name, Value.string X.a, Value.string X.b, Value.int .i64 X.cap, Value.int .i64 X.hasA, Value.int .i64 X.hasB] 95) = W at hbW hnew ⊢
            have q1 : W.cell? ⟨w.heap.size, 1, none⟩ = some (.string X.a) := by simp [World.cell?, hnew]
            have q2 : W.cell? ⟨w.heap.size, 2, none⟩ = some (.string X.b) := by simp [World.cell?, hnew]
            have LW := RAt.below H.out hbW
            have HFA := Lib.hid fun n => (rfind_some HS.out (RAt.of_heap LW (show (W.drewN n).heap = W.heap from rfl)) hi1 hg1 g1).mono fun e w' (hh : e = .returned (.int .i64 i1) ∧ W.drewN n = w') => (⟨hh.1, n, hh.2.symm⟩ : e = .returned (.int .i64 i1) ∧ ∃ m, w' = W.drewN m)
            have HFB := Lib.hid fun n => (rfind_some HS.out (RAt.of_heap LW (show (W.drewN n).heap = W.heap from rfl)) hj2 hg2 g2).mono fun e w' (hh : e = .returned (.int .i64 i2) ∧ W.drewN n = w') => (⟨hh.1, n, hh.2.symm⟩ : e = .returned (.int .i64 i2) ∧ ∃ m, w' = W.drewN m)
            have HLW := Lib.hid LW
            have HBW := Lib.hid hbW
            have HNEW := Lib.hid hnew
            have HO2 := Lib.hid ho
            have HG1 := Lib.hid hg1
            have HG2 := Lib.hid hg2
            have HAB := Lib.hid hab
            clear e0 e1 e2 d0 d1 d2 d3 d4 d5 hr ho hab hg1 hg2 g1 g2 hbW hnew hW LW
            go_quiet (first
              | (go_at_call 78; with_reducible exact HFA.out _)
              | (go_at_call 78; with_reducible exact HFB.out _))
            clear q1 q2 HFA HFB
            generalize hW1 : W.drewN nq = W1
            have L1 : RLed W1 p (.slice Aa (accs s).length ca) (.slice (some ad) (tch s.chans).length cc) (.slice Ah s.holds.length ch) vs s := RAt.of_heap HLW.out (by rw [← hW1]; rfl)
            have hn1 : W1.heap[w.heap.size]? = some (.cells #[Value.string name, Value.string X.a, Value.string X.b, Value.int .i64 X.cap, Value.int .i64 X.hasA, Value.int .i64 X.hasB] 95) := by rw [← hW1]; exact HNEW.out
            have hb1 : Below w.heap.size w W1 := by rw [← hW1]; exact below_drewN HBW.out _
            obtain ⟨ad1, hAd, -⟩ := RAt.acc_put L1 hi1
            subst hAd
            obtain ⟨c1, fz1, hput1⟩ := rput_coins HS.out.nk L1 hi1 HG1.out
            obtain ⟨e0, -, -, -⟩ := RAt.cell L1
            have r4 : W1.cell? ⟨w.heap.size, 4, none⟩ = some (.int .i64 X.hasA) := by simp [World.cell?, hn1]
            have hq0 := cq_pos HS.out X.a
            obtain ⟨v1, hv1⟩ : ∃ v, mget s.coins X.a = some v := Option.isSome_iff_exists.1 HO2.out.ina
            obtain ⟨v2, hv2⟩ : ∃ v, mget s.coins X.b = some v := Option.isSome_iff_exists.1 HO2.out.inb
            have hcq1 : cq s X.a = v1 := by unfold cq; rw [hv1]; rfl
            rw [hcq1] at c1 hq0
            have hq1 := (coin_le HS.out hv1).2
            have hv20 := HS.out.pos _ _ hv2
            have hv21 := (coin_le HS.out hv2).2
            unfold maxCoin at hq1 hv21
            have t0 : 0 ≤ X.hasA / 1000 := by omega
            have t1 : X.hasA / 1000 ≤ 2100000000000000 := by omega
            have t2 : 0 ≤ v1 + X.hasA / 1000 := by omega
            have t3 : v1 + X.hasA / 1000 ≤ 4200000000000000 := by omega
            have t4 : 0 ≤ v1 + X.hasA / 1000 - cost := by omega
            have t5 : v1 + X.hasA / 1000 - cost ≤ 4200000000000000 := by omega
            have hA1 : (accs s).length ≤ 64 := by rw [accs_len]; exact HS.out.lk
            have HPUT := Lib.hid hput1
            have HV1 := Lib.hid hv1
            have HV2 := Lib.hid hv2
            have HB1W := Lib.hid hb1
            have HN1W := Lib.hid hn1
            clear hput1 hv1 hv2 hb1 hn1 L1 hW1 hcq1
            go_wp2_with fail
            go_region
            obtain ⟨W2, hW2⟩ : ∃ W2 : World, W2 = (W1.setCell ⟨(ad1.add (i1 * 2)).block, (ad1.add (i1 * 2)).off + 1, none⟩ (.int .i64 (v1 + X.hasA / 1000 - cost))).drew := ⟨_, rfl⟩
            obtain ⟨hL1, hF1⟩ := HPUT.out (v1 + X.hasA / 1000 - cost) W2 (by rw [hW2]; rfl) (by rw [hW2]; rfl) (by rw [hW2]; rfl) (by rw [hW2]; rfl)
            rw [← hW2]
            obtain ⟨s1, hs1⟩ : ∃ s1 : Led, s1 = { s with coins := mset s.coins X.a (v1 + X.hasA / 1000 - cost) } := ⟨_, rfl⟩
            rw [← hs1] at hL1
            have hn1 : (s1.coins.map (·.1)).Nodup := by rw [hs1]; exact mset_nodup HS.out.nk _ _
            have hk1 : skeys s1.coins = skeys s.coins := by rw [hs1]; exact skeys_same (by rw [mset_keys, if_pos (by rw [HV1.out]; rfl)])
            have hd1 : mget s1.coins X.b = some v2 := by rw [hs1]; show mget (mset s.coins X.a _) X.b = _; rw [mget_mset_other _ _ (fun e => HAB.out e.symm)]; exact HV2.out
            obtain ⟨i3, hi3, hg3, -, -⟩ := acc_place hn1 (name := X.b) (by rw [hd1]; rfl)
            have hii2 : i2 = i3 := acc_same HS.out.nk hk1 hj2 (by rw [HG2.out]) hi3 (by rw [hg3])
            subst hii2
            obtain ⟨d1, fz2, hput2⟩ := rput_coins hn1 hL1 hi3 hg3
            have hq2 : cq s1 X.b = v2 := by unfold cq; rw [hd1]; rfl
            rw [hq2] at d1
            have hnew2 : W2.heap[w.heap.size]? = some (.cells #[Value.string name, Value.string X.a, Value.string X.b, Value.int .i64 X.cap, Value.int .i64 X.hasA, Value.int .i64 X.hasB] 95) := by
              refine (hF1.block _ (lt_of_block HN1W.out) fun hm => ?_).trans HN1W.out
              have := RAt.lts H.out _ hm
              omega
            have r5 : W2.cell? ⟨w.heap.size, 5, none⟩ = some (.int .i64 X.hasB) := by simp [World.cell?, hnew2]
            obtain ⟨e0', -, -, -⟩ := RAt.cell hL1
            have t6 : 0 ≤ X.hasB / 1000 := by omega
            have t7 : X.hasB / 1000 ≤ 2100000000000000 := by omega
            have t8 : 0 ≤ v2 + X.hasB / 1000 := by omega
            have t9 : v2 + X.hasB / 1000 ≤ 4200000000000000 := by omega
            have HPUT2 := Lib.hid hput2
            have HF1 := Lib.hid hF1
            have HS1 := Lib.hid hs1
            clear hW2 hL1 hF1 hs1 hn1 hk1 hd1 hg3 hput2 hq2 e0 c1 fz1 hi3 r4 hnew2 t0 t1 t2 t3 t4 t5
            go_wp2_with fail
            go_region
            obtain ⟨W3, hW3⟩ : ∃ W3 : World, W3 = (W2.setCell ⟨(ad1.add (i2 * 2)).block, (ad1.add (i2 * 2)).off + 1, none⟩ (.int .i64 (v2 + X.hasB / 1000))).drew := ⟨_, rfl⟩
            obtain ⟨hL2, hF2⟩ := HPUT2.out (v2 + X.hasB / 1000) W3 (by rw [hW3]; rfl) (by rw [hW3]; rfl) (by rw [hW3]; rfl) (by rw [hW3]; rfl)
            rw [← hW3]
            have hS2 : ({ s with coins := closeTo s X cost } : Led) = { s1 with coins := mset s1.coins X.b (v2 + X.hasB / 1000) } := by
              rw [HS1.out]
              unfold closeTo
              simp only [HV1.out, Option.getD_some]
              rw [mget_mset_other _ _ (fun e => HAB.out e.symm), HV2.out, show v1 + (X.hasA / 1000 - cost) = v1 + X.hasA / 1000 - cost by omega]
              rfl
            rw [← hS2] at hL2
            have hL3 : RAt W3 p (.slice (some ad1) (accs s).length ca) (.slice (some ad) (tch s.chans).length cc) (.slice Ah s.holds.length ch) vs (accs { s with coins := closeTo s X cost }) (tch s.chans) s.holds s.last := hL2
            have HFR := Lib.hid (show Fr (fpR p (.slice (some ad1) (accs s).length ca) (.slice (some ad) (tch s.chans).length cc) (.slice Ah s.holds.length ch)) w W3 from ((Fr.below HB1W.out).trans HF1.out fun i hi _ => hi).trans hF2 fun i hi _ => hi)
            have L3 := Lib.hid hL3
            obtain ⟨-, e1, -, -⟩ := RAt.cell hL3
            have hlen : ((tch s.chans).flatMap chC).length = (tch s.chans).length * 6 := flat_len chC 6 (fun _ => rfl) _
            obtain ⟨A2, c2, hv2, hcap, hcells2⟩ := RAt.chs hL3
            injection hv2 with hv21 hv22 hv23
            subst hv21
            subst hv23
            clear hv22 hL2 hL3 hF2 hW3 hS2 e0' d1 fz2 r5 t6 t7 t8 t9
            have hi0 : (0 : Int) ≤ (i : Int) := by omega
            have hi1' : (i : Int) ≤ (cc : Int) := by omega
            have hi2' : (i : Int) + 1 ≤ ((tch s.chans).length : Int) := by omega
            have hi3' : ((tch s.chans).length : Int) ≤ (cc : Int) := by omega
            have hi4' : (i : Int) + 1 ≤ (cc : Int) := by omega
            have hi5' : (0 : Int) ≤ (i : Int) + 1 := by omega
            have hi6' : ((i : Int) + 1).toNat = i + 1 := by omega
            have hone : ∀ u ∈ (tch s.chans).flatMap chC, u.oneCell' = true := flat_one _ chC_one _
            have HC0 := Lib.hid (show (tch s.chans).length = i + 1 → ((tch s.chans).flatMap chC).drop ((i + 1) * 6) = [] from fun he => List.drop_of_length_le (by rw [hlen]; omega))
            have H1T := Lib.hid fun (u : Value) (hu : u ∈ ((tch s.chans).flatMap chC).take (i * 6)) => hone u (List.mem_of_mem_take hu)
            have H1D := Lib.hid fun (u : Value) (hu : u ∈ ((tch s.chans).flatMap chC).drop ((i + 1) * 6)) => hone u (List.mem_of_mem_drop hu)
            have HLT := Lib.hid (show (((tch s.chans).flatMap chC).take (i * 6)).length = i * 6 by rw [List.length_take, hlen]; omega)
            have HLD := Lib.hid (show (((tch s.chans).flatMap chC).drop ((i + 1) * 6)).length = ((tch s.chans).length - (i + 1)) * 6 by rw [List.length_drop, hlen]; omega)
            have HCT := Lib.hid (Cells.take hcells2 (i * 6))
            have HCD := Lib.hid (cells_drop hcells2 ((i + 1) * 6))
            have HN1 := Lib.hid (show (0 + i) * 72 ≤ 140737488355328 by omega)
            have HN2 := Lib.hid (show 0 + i ≤ 140737488355328 by omega)
            have HNIL := Lib.hid (show ∀ u ∈ ([] : List Value), u.oneCell' = true from fun u hu => by cases hu)
            have H0 := Lib.hid (World.ownsRow_nil W3 W3.heap.size 95 6)
            clear hone hlen hcells2
            by_cases hce : cc = i + 1
            · have hh0 : (tch s.chans).length = i + 1 := by omega
              have HNN := Lib.hid (show i + 0 = (tch s.chans).length - 1 by omega)
              have HN3 := Lib.hid (show (i + 0) * 72 ≤ 140737488355328 by omega)
              have HN4 := Lib.hid (show i + 0 ≤ 140737488355328 by omega)
              have tok1 : True := trivial
              have tok2 : True := trivial
              go_wp2_with (first
                | (at_builtin; have _t := tok1; go_must (refine wpList_appk slRChan rfl _ _ rfl W3.heap.size _ 0 [] rfl H0.out (some ad) i (i + 1) (((tch s.chans).flatMap chC).take (i * 6)) rfl HLT.out HCT.out H1T.out HN1.out HN2.out (Nat.le_refl _) ?_); intro v1 u1 hown1 hg1 hb1 hat1; rw [Nat.zero_add, List.nil_append] at hown1; obtain ⟨A1, c1, hv1, -, -⟩ := own_shape hown1; subst hv1; have HO1 := Lib.hid hown1; have HB1 := Lib.hid hb1; have k2 := cell_below hb1 e1; have HCD1 := Lib.hid (Cells.nil u1 (some ad)); have HSZ1 := Lib.hid hb1.size; clear tok1 _t hown1 hg1 hb1 hat1)
                | (at_builtin; have _t := tok2; go_must (refine wpList_appk slRChan rfl _ _ rfl W3.heap.size _ i (((tch s.chans).flatMap chC).take (i * 6)) rfl HO1.out (some ad) 0 0 [] rfl rfl HCD1.out HNIL.out HN3.out HN4.out HSZ1.out ?_); intro v2 u2 hown2 hg2 hb2 hat2; obtain ⟨A2, c2, hv2, -, -⟩ := own_shape hown2; subst hv2; have HOW2 := Lib.hid hown2; have HB2 := Lib.hid (HB1.out.trans hb2); have k3 := cell_below (HB1.out.trans hb2) e1; have f3 := RAt.free (L3.out.below (HB1.out.trans hb2)) 1; clear tok2 _t hown2 hg2 hb2 hat2 k2))
              go_ret
              rw [HRR.out]
              obtain ⟨g1, g2, g3⟩ := rclose_fin HFR.out L3.out HB2.out hi (n := i + 0) HOW2.out (by rw [HC0.out hh0]) (tch_del HCK.out (by rw [HM.out]; rfl) hi2 hki) HNN.out
              exact ⟨rfl, _, _, _, _, g1, g2, g3⟩
            · have HNN := Lib.hid (show i + ((tch s.chans).length - (i + 1)) = (tch s.chans).length - 1 by omega)
              have HN3 := Lib.hid (show (i + ((tch s.chans).length - (i + 1))) * 72 ≤ 140737488355328 by omega)
              have HN4 := Lib.hid (show i + ((tch s.chans).length - (i + 1)) ≤ 140737488355328 by omega)
              have tok1 : True := trivial
              have tok2 : True := trivial
              go_wp2_with (first
                | (at_builtin; have _t := tok1; go_must (refine wpList_appk slRChan rfl _ _ rfl W3.heap.size _ 0 [] rfl H0.out (some ad) i cc (((tch s.chans).flatMap chC).take (i * 6)) rfl HLT.out HCT.out H1T.out HN1.out HN2.out (Nat.le_refl _) ?_); intro v1 u1 hown1 hg1 hb1 hat1; rw [Nat.zero_add, List.nil_append] at hown1; obtain ⟨A1, c1, hv1, -, -⟩ := own_shape hown1; subst hv1; have HO1 := Lib.hid hown1; have HB1 := Lib.hid hb1; have k2 := cell_below hb1 e1; have HCD1 := Lib.hid (HCD.out.below hb1); have HSZ1 := Lib.hid hb1.size; clear tok1 _t hown1 hg1 hb1 hat1)
                | (at_builtin; have _t := tok2; go_must (refine wpList_appk slRChan rfl _ _ rfl W3.heap.size _ i (((tch s.chans).flatMap chC).take (i * 6)) rfl HO1.out (some (ad.add ((i + 1) * 6))) ((tch s.chans).length - (i + 1)) (cc - (i + 1)) (((tch s.chans).flatMap chC).drop ((i + 1) * 6)) rfl HLD.out HCD1.out H1D.out HN3.out HN4.out HSZ1.out ?_); intro v2 u2 hown2 hg2 hb2 hat2; obtain ⟨A2, c2, hv2, -, -⟩ := own_shape hown2; subst hv2; have HOW2 := Lib.hid hown2; have HB2 := Lib.hid (HB1.out.trans hb2); have k3 := cell_below (HB1.out.trans hb2) e1; have f3 := RAt.free (L3.out.below (HB1.out.trans hb2)) 1; clear tok2 _t hown2 hg2 hb2 hat2 k2))
              go_ret
              rw [HRR.out]
              obtain ⟨g1, g2, g3⟩ := rclose_fin HFR.out L3.out HB2.out hi (n := i + ((tch s.chans).length - (i + 1))) HOW2.out (rfl) (tch_del HCK.out (by rw [HM.out]; rfl) hi2 hki) HNN.out
              exact ⟨rfl, _, _, _, _, g1, g2, g3⟩
end Go.Proofs.Ytmlcojhanimnpaa
