/- whole (of the statements): it is true of every good ledger. -/
import Derived.Test.YtmlcojhanimnpaaJ2
namespace Go.Proofs.Ytmlcojhanimnpaa
open Go.RowKit

/-- A row of elements of m cells each. -/
theorem flat_at {α : Type} (f : α → List Value) (m : Nat) (hf : ∀ x, (f x).length = m) : ∀ (l : List α) (k : Nat) (hk : k < l.length) (j : Nat), j < m → (l.flatMap f)[k * m + j]? = (f l[k])[j]?
  | [], k, hk, j, _ => absurd hk (by simp)
  | x :: r, 0, _, j, hj => by
    rw [List.flatMap_cons, Nat.zero_mul, Nat.zero_add, List.getElem?_append_left (by rw [hf]; exact hj)]
    rfl
  | x :: r, k + 1, hk, j, hj => by
    rw [List.flatMap_cons, List.getElem?_append_right (by rw [hf, Nat.add_mul]; omega), hf, show (k + 1) * m + j - m = k * m + j by rw [Nat.add_mul]; omega]
    exact flat_at f m hf r k (by simpa using hk) j hj
theorem flat_pos {α : Type} (f : α → List Value) (m : Nat) (hf : ∀ x, (f x).length = m) (hm : 0 < m) {l : List α} {k : Nat} (hk : k < l.length) : 0 < (l.flatMap f).length := by
  cases l with
  | nil => simp at hk
  | cons x r => rw [List.flatMap_cons, List.length_append, hf]; omega
theorem acc_look {w : World} {A : Option Addr} {l : List (ByteArray × Int)} (h : Cells w A (l.flatMap accC)) {k : Nat} (hk : k < l.length) :
    ∃ ad, A = some ad ∧ w.cell? (ad.add (k * 2)) = some (.string l[k].1) ∧ w.cell? ⟨(ad.add (k * 2)).block, (ad.add (k * 2)).off + 1, none⟩ = some (.int .i64 l[k].2) := by
  obtain ⟨ad, he, hc⟩ := h (flat_pos accC 2 (fun _ => rfl) (by decide) hk)
  exact ⟨ad, he, hc _ _ (flat_at accC 2 (fun _ => rfl) l k hk 0 (by decide)), by rw [next_add _ _ _ (by decide)]; exact hc _ _ (flat_at accC 2 (fun _ => rfl) l k hk 1 (by decide))⟩
theorem ch_look {w : World} {A : Option Addr} {l : List Chan} (h : Cells w A (l.flatMap chC)) {k : Nat} (hk : k < l.length) :
    ∃ ad, A = some ad ∧ w.cell? (ad.add (k * 6)) = some (.string l[k].name) ∧ w.cell? ⟨(ad.add (k * 6)).block, (ad.add (k * 6)).off + 1, none⟩ = some (.string l[k].a) ∧ w.cell? ⟨(ad.add (k * 6)).block, (ad.add (k * 6)).off + 2, none⟩ = some (.string l[k].b) ∧
      w.cell? ⟨(ad.add (k * 6)).block, (ad.add (k * 6)).off + 3, none⟩ = some (.int .i64 l[k].cap) ∧ w.cell? ⟨(ad.add (k * 6)).block, (ad.add (k * 6)).off + 4, none⟩ = some (.int .i64 l[k].hasA) ∧ w.cell? ⟨(ad.add (k * 6)).block, (ad.add (k * 6)).off + 5, none⟩ = some (.int .i64 l[k].hasB) := by
  obtain ⟨ad, he, hc⟩ := h (flat_pos chC 6 (fun _ => rfl) (by decide) hk)
  exact ⟨ad, he, hc _ _ (flat_at chC 6 (fun _ => rfl) l k hk 0 (by decide)), by rw [next_add _ _ _ (by decide)]; exact hc _ _ (flat_at chC 6 (fun _ => rfl) l k hk 1 (by decide)), by rw [next_add _ _ _ (by decide)]; exact hc _ _ (flat_at chC 6 (fun _ => rfl) l k hk 2 (by decide)), by rw [next_add _ _ _ (by decide)]; exact hc _ _ (flat_at chC 6 (fun _ => rfl) l k hk 3 (by decide)),
    by rw [next_add _ _ _ (by decide)]; exact hc _ _ (flat_at chC 6 (fun _ => rfl) l k hk 4 (by decide)), by rw [next_add _ _ _ (by decide)]; exact hc _ _ (flat_at chC 6 (fun _ => rfl) l k hk 5 (by decide))⟩
theorem worthV_some {s : Led} {q : ByteArray} (h : (mget s.coins q).isSome = true) : worthV s q = .tuple #[.int .i64 (worth s q), .bool true] := by unfold worthV; rw [if_pos h]
theorem holdSum_all (p : Leg → Bool) (L : List HoldR) (h : ∀ x ∈ L, ∀ y ∈ x.legs, 1 ≤ y.amt) (k t : Nat) (hk : k < L.length) :
    0 ≤ holdSum p (L.take k) ∧ 0 ≤ legSum p (L[k].legs.take t) ∧ holdSum p (L.take k) + legSum p (L[k].legs.take t) ≤ holdSum p L := by
  have h1 := holdSum_take p L h (k + 1)
  have h2 := holdSum_step p L k hk
  have h3 := legSum_take p L[k].legs (h _ (List.getElem_mem hk)) t
  have h4 := legSum_nonneg p (L[k].legs.take t) fun y hy => h _ (List.getElem_mem hk) y (List.mem_of_mem_take hy)
  have h5 := holdSum_take p L h k
  omega
set_option maxRecDepth 100000 in
set_option maxHeartbeats 8000000 in
theorem whole_any (p c d : Nat) (v : Value) (vs : List Value) (s : Led) (w : World) (hs : Inv s) (hn : Named s) (h : LedAt w p c d v vs s) :
    Calls Try.prog 21 #[.pointer (some ⟨p, 0, none⟩)] w fun e w' => e = .returned (.bool true) ∧ Below w.heap.size w w' := by
  have H := Lib.hid h
  have HS := Lib.hid hs
  have HN := Lib.hid hn
  have hla := accs_len s
  have hlc := chs_len s
  have hk1 := hs.lk
  have hk2 := hs.lc
  have hk3 := hs.lh
  have hA1 : (accs s).length ≤ 64 := by omega
  have hC1 : (chs s).length ≤ 256 := by omega
  clear h hs hn hla hlc hk1 hk2
  go_enter Try.func21, Try.ntmps21
  go_wp2_with fail
  refine (acc_any p c d v vs s _ HS.out HN.out H.out).mono ?_
  rintro e w1 ⟨va, rfl, howa, hb1⟩
  obtain ⟨Aa, ca, rfl, -, hca⟩ := own_shape howa
  have HCA := Lib.hid hca
  have HB1 := Lib.hid hb1
  have H1 := Lib.hid (H.out.below hb1)
  clear howa hca hb1
  go_wp2_with fail
  refine (chs_any p c d v vs s _ HS.out HN.out H1.out).mono ?_
  rintro e w2 ⟨vc, rfl, howc, hb2⟩
  obtain ⟨Ac, cc, rfl, -, hcc⟩ := own_shape howc
  have HCC := Lib.hid hcc
  have HCA2 := Lib.hid (HCA.out.below hb2)
  have H2 := Lib.hid (H1.out.below hb2)
  have HB2 := Lib.hid (HB1.out.trans (hb2.mono HB1.out.size))
  clear howc hcc hb2
  go_wp2_with fail
  refine (holds_any p c d v vs s _ HS.out H2.out).mono ?_
  rintro e w3 ⟨vh, vs3, rfl, howh, hvh, hb3⟩
  obtain ⟨Ah, ch, rfl, -, hch⟩ := own_shape howh
  have HHI := Lib.hid (⟨hch, hvh⟩ : HoldsIn w3 Ah s.holds vs3)
  have HCA3 := Lib.hid (HCA2.out.below hb3)
  have HCC3 := Lib.hid (HCC.out.below hb3)
  have H3 := Lib.hid (H2.out.below hb3)
  have HB3 := Lib.hid (HB2.out.trans (hb3.mono HB2.out.size))
  clear howh hvh hch hb3
  go_wp2_with fail
  go_loopw [6, 7] (fun n i wr => ∃ k : Nat, k ≤ (accs s).length ∧ i = .int .i64 k ∧ n = .int .i64 (ksum (worth s) ((accs s).take k)) ∧ Below w3.heap.size w3 wr) (fun _ i _ => (accs s).length - (intOf i).toNat)
  case atStart => exact ⟨0, Nat.zero_le _, rfl, rfl, Below.refl _ _⟩
  case round =>
    obtain ⟨k, hk, rfl, hn, hb⟩ := hrel
    have HBB := Lib.hid hb
    have hks := ksum_take (worth s) (worth_nonneg HS.out) (accs s) k
    have haw := accs_worth HS.out
    have htot := HS.out.tot
    unfold maxCoin at htot
    by_cases hlt : k < (accs s).length
    · obtain ⟨ad, rfl, c0, c1⟩ := acc_look (HCA3.out.below hb) hlt
      have hks2 := ksum_take (worth s) (worth_nonneg HS.out) (accs s) (k + 1)
      have hst := ksum_step (worth s) (accs s) hlt
      have hsome := accs_some s (List.getElem_mem hlt)
      have hco := (coin_le HS.out hsome).1
      have hwn := worth_nonneg HS.out (accs s)[k].1
      have hwv := worthV_some (s := s) (q := (accs s)[k].1) (by rw [hsome]; rfl)
      obtain ⟨P, hP⟩ : ∃ P, (accs s)[k] = P := ⟨_, rfl⟩
      rw [hP] at c0 c1 hst hco hwn hwv
      obtain ⟨W, hW⟩ : ∃ W, worth s P.1 = W := ⟨_, rfl⟩
      rw [hW] at hst hwn hwv
      obtain ⟨S, hS⟩ : ∃ S, ksum (worth s) ((accs s).take k) = S := ⟨_, rfl⟩
      rw [hS] at hst hks hn
      subst hn
      have g0 : 0 ≤ S := hks.1
      have g1 : S ≤ 2100000000000000000 := by omega
      have g2 : 0 ≤ S + W := by omega
      have g3 : S + W ≤ 2100000000000000000 := by omega
      have g4 : W ≤ 2100000000000000000 := by omega
      have HWV := Lib.hid hwv
      have HST := Lib.hid hst
      have HL := Lib.hid (H3.out.below hb)
      clear hb hks haw htot hks2 hst hsome hwv hP hW hS
      go_wp2_with fail
      refine (worth_any p c d v vs s P.1 _ HS.out HL.out).mono ?_
      rintro e w4 ⟨rfl, hb4⟩
      rw [HWV.out]
      have k1 := cell_below hb4 c1
      have HB4 := Lib.hid (HBB.out.trans (hb4.mono HBB.out.size))
      clear hb4 c0 c1
      go_wp2_with fail
      go_roundw
      case rel => exact ⟨k + 1, by omega, by go_num, by rw [HST.out], HB4.out⟩
      case measure => simp [intOf]; omega
    · have hke : (accs s).take k = accs s := List.take_of_length_le (by omega)
      rw [hke, haw] at hn
      subst hn
      obtain ⟨T, hT⟩ : ∃ T, total s = T := ⟨_, rfl⟩
      have hT0 : 0 ≤ T := by
        have h1 := sum_coins HS.out; have h2 := sum_caps HS.out; rw [← hT]; unfold total; omega
      rw [hT] at htot
      have HT := Lib.hid hT
      have hT1 : ¬ 2100000000000000 < T := by omega
      rw [HT.out]
      clear hb hks haw htot hke hT
      go_wp2_with fail
      go_loopw [10] (fun i wr => ∃ k : Nat, k ≤ (chs s).length ∧ i = .int .i64 k ∧ Below w3.heap.size w3 wr) (fun i _ => (chs s).length - (intOf i).toNat)
      case atStart => exact ⟨0, Nat.zero_le _, rfl, HBB.out⟩
      case round =>
        obtain ⟨k, hk, rfl, hb⟩ := hrel
        have HBC := Lib.hid hb
        by_cases hlt : k < (chs s).length
        · obtain ⟨ad, rfl, -, -, -, -, d4, d5⟩ := ch_look (HCC3.out.below hb) hlt
          obtain ⟨hsum, ha0, hb0, hcap0, hcap1⟩ := chan_sum HS.out (List.getElem_mem hlt)
          obtain ⟨X, hX⟩ : ∃ X, (chs s)[k] = X := ⟨_, rfl⟩
          rw [hX] at d4 d5 hsum ha0 hb0 hcap0 hcap1
          have hpos : ∀ z ∈ s.holds, ∀ y ∈ z.legs, 1 ≤ y.amt := fun z hz y hy => (HS.out.hs z hz y hy).lo
          have HPOS := Lib.hid hpos
          have hhn := holdSum_nonneg (fun x => x.ch == X.name) s.holds hpos
          unfold maxCoin at hcap1
          obtain ⟨D, hD⟩ : ∃ D, holdSum (fun x => x.ch == X.name) s.holds = D := ⟨_, rfl⟩
          rw [hD] at hsum hhn
          have HD := Lib.hid hD
          have HX := Lib.hid hX
          have HSUM := Lib.hid hsum
          have j1 : X.hasA ≤ 2100000000000000000 := by omega
          have j2 : X.hasB ≤ 2100000000000000000 := by omega
          have j3 : X.hasA + X.hasB ≤ 2100000000000000000 := by omega
          have j4 : X.hasA + X.hasB + D ≤ 2100000000000000000 := by omega
          have j5 : ¬ 2100000000000000 < X.cap := by omega
          clear hb hpos hD hX hsum hcap1
          go_wp2_with fail
          go_quiet (fail)
          go_wp2_with fail
          go_loopw [11, 12] (fun n i wr => ∃ k : Nat, k ≤ s.holds.length ∧ i = .int .i64 k ∧ n = .int .i64 (X.hasA + X.hasB + holdSum (fun x => x.ch == X.name) (s.holds.take k)) ∧ Below w3.heap.size w3 wr) (fun _ i _ => s.holds.length - (intOf i).toNat)
          case atStart => exact ⟨0, Nat.zero_le _, rfl, by simp [holdSum], below_drewN HBC.out _⟩
          case round =>
            obtain ⟨t, ht, rfl, hn, hb⟩ := hrel
            have HBD := Lib.hid hb
            clear d4 d5
            by_cases htl : t < s.holds.length
            · obtain ⟨ah, Bl, c2, rfl, -, -, -⟩ := HHI.out.look htl
              obtain ⟨ah2, Bl2, c3, hae, -, q1, hown2⟩ := (HHI.out.below hb).look htl
              injection hae with hae
              subst hae
              have hll := HS.out.hl _ (List.getElem_mem htl)
              have hst := holdSum_step (fun x => x.ch == X.name) s.holds t htl
              have hall := fun t' => holdSum_all (fun x => x.ch == X.name) s.holds HPOS.out t t' htl
              rw [HD.out] at hall
              obtain ⟨z, hz⟩ : ∃ z, s.holds[t] = z := ⟨_, rfl⟩
              rw [hz] at q1 hown2 hll hst hall
              obtain ⟨M, hM⟩ : ∃ M, holdSum (fun x => x.ch == X.name) (s.holds.take t) = M := ⟨_, rfl⟩
              rw [hM] at hst hall hn
              subst hn
              have HST := Lib.hid hst
              have HALL := Lib.hid hall
              have HLW := Lib.hid (legs_of_own hown2)
              have HZ := Lib.hid hz
              clear hb hst hall hown2 hz hM q1
              obtain ⟨wo, hwo⟩ : ∃ wo : World, wo = wr := ⟨_, rfl⟩
              subst hwo
              go_wp2_with fail
              go_loopw [11, 13] (fun n j wr => ∃ u : Nat, u ≤ z.legs.length ∧ j = .int .i64 u ∧ n = .int .i64 (X.hasA + X.hasB + M + legSum (fun x => x.ch == X.name) (z.legs.take u)) ∧ Below wo.heap.size wo wr) (fun _ j _ => z.legs.length - (intOf j).toNat)
              case atStart => exact ⟨0, Nat.zero_le _, rfl, by simp [legSum], Below.refl _ _⟩
              case round =>
                obtain ⟨u, hu, rfl, hn, hb⟩ := hrel
                have HBE := Lib.hid hb
                have hbw : Below w3.heap.size w3 wr := HBD.out.trans (hb.mono HBD.out.size)
                obtain ⟨ah3, Bl3, c4, hae, -, q1, hown3⟩ := (HHI.out.below hbw).look htl
                injection hae with hae
                subst hae
                obtain ⟨ad2, hae2, e0, -, -, -, -, -⟩ := ch_look (HCC3.out.below hbw) hlt
                injection hae2 with hae2
                subst hae2
                rw [HX.out] at e0
                rw [HZ.out] at q1 hown3
                have HLB := Lib.hid (legs_of_own hown3)
                clear hown3 hbw
                have hA := HALL.out u
                by_cases hul : u < z.legs.length
                · obtain ⟨la, rfl, l0, l1, l2⟩ := LegsIn.look HLB.out hul
                  have u4 := legSum_step (fun x => x.ch == X.name) z.legs u hul
                  have hA2 := HALL.out (u + 1)
                  obtain ⟨Y, hY⟩ : ∃ Y, z.legs[u] = Y := ⟨_, rfl⟩
                  rw [hY] at l0 l1 l2 u4
                  obtain ⟨N, hN⟩ : ∃ N, legSum (fun x => x.ch == X.name) (z.legs.take u) = N := ⟨_, rfl⟩
                  rw [hN] at hn u4 hA
                  subst hn
                  by_cases hq : Y.ch = X.name
                  · have hbq : (Y.ch == X.name) = true := (ch_beq _ _).2 hq
                    simp only [hbq, if_true] at u4
                    rw [u4] at hA2
                    have m1 : 0 ≤ X.hasA + X.hasB + M + N + Y.amt := by omega
                    have m2 : X.hasA + X.hasB + M + N + Y.amt ≤ 2100000000000000000 := by omega
                    have m3 : 0 ≤ X.hasA + X.hasB + M + N := by omega
                    have m4 : X.hasA + X.hasB + M + N ≤ 2100000000000000000 := by omega
                    have he := tl_t hq
                    have HU4 := Lib.hid u4
                    clear hb hq hbq u4 hA hA2 hY hN
                    go_wp2_with fail
                    go_quiet (fail)
                    go_wp2_with fail
                    go_roundw
                    case rel => exact ⟨u + 1, by omega, by go_num, by rw [HU4.out]; congr 1; omega, below_drewN HBE.out _⟩
                    case measure => simp [intOf]; omega
                  · have hbq : (Y.ch == X.name) = false := (ch_bne _ _).2 hq
                    simp only [hbq, Bool.false_eq_true, if_false] at u4
                    have he := tl_f hq
                    have HU4 := Lib.hid u4
                    clear hb hq hbq u4 hA hA2 hY hN
                    go_wp2_with fail
                    go_quiet (fail)
                    go_wp2_with fail
                    go_roundw
                    case rel => exact ⟨u + 1, by omega, by go_num, by rw [HU4.out]; congr 1; omega, below_drewN HBE.out _⟩
                    case measure => simp [intOf]; omega
                · have hte : z.legs.take u = z.legs := List.take_of_length_le (by omega)
                  rw [hte] at hn
                  subst hn
                  clear hb hA hte e0
                  go_wp2_with fail
                  go_roundw
                  case rel => exact ⟨t + 1, by omega, by go_num, by rw [HST.out]; congr 1; omega, HBD.out.trans (HBE.out.mono HBD.out.size)⟩
                  case measure => simp [intOf]; omega
            · have hte : s.holds.take t = s.holds := List.take_of_length_le (by omega)
              rw [hte, HD.out, HSUM.out] at hn
              subst hn
              obtain ⟨ad2, hae2, -, -, -, e3, e4, e5⟩ := ch_look (HCC3.out.below hb) hlt
              injection hae2 with hae2
              subst hae2
              rw [HX.out] at e3 e4 e5
              clear hb hte
              go_wp2_with fail
              go_roundw
              case rel => exact ⟨k + 1, by omega, by go_num, HBD.out⟩
              case measure => simp [intOf]; omega
        · have HL := Lib.hid (H3.out.below hb)
          clear hb
          go_wp2_with fail
          refine (tot_any p c d v vs s _ HS.out HL.out).mono ?_
          rintro e w4 ⟨rfl, hb4⟩
          rw [HT.out]
          have HB4 := Lib.hid (HB3.out.trans ((HBC.out.trans (hb4.mono HBC.out.size)).mono HB3.out.size))
          clear hb4
          go_wp2_with fail
          go_ret
          exact ⟨ret_bool (by first | (simp; done) | (simp; omega)), HB4.out⟩
end Go.Proofs.Ytmlcojhanimnpaa
