/- Worth. -/
import Derived.Test.YtmlcojhanimnpaaI20
import Derived.Test.YtmlcojhanimnpaaIdealS
namespace Go.Proofs.Ytmlcojhanimnpaa
open Go.RowKit

def worthV (s : Led) (q : ByteArray) : Value := if (mget s.coins q).isSome = true then .tuple #[.int .i64 (worth s q), .bool true] else .tuple #[.int .i64 0, .bool false]
theorem holdSum_step (p : Leg → Bool) (L : List HoldR) (k : Nat) (hk : k < L.length) : holdSum p (L.take (k + 1)) = holdSum p (L.take k) + legSum p L[k].legs := by
  rw [List.take_succ_eq_append_getElem hk, holdSum_append, holdSum_cons, holdSum_nil]; omega
theorem holdSum_take (p : Leg → Bool) (L : List HoldR) (h : ∀ x ∈ L, ∀ y ∈ x.legs, 1 ≤ y.amt) (k : Nat) : holdSum p (L.take k) ≤ holdSum p L ∧ 0 ≤ holdSum p (L.take k) := by
  have h1 := holdSum_append p (L.take k) (L.drop k)
  rw [List.take_append_drop] at h1
  have := holdSum_nonneg p (L.drop k) fun y hy => h y (List.mem_of_mem_drop hy)
  have := holdSum_nonneg p (L.take k) fun y hy => h y (List.mem_of_mem_take hy)
  omega
theorem legSum_step (p : Leg → Bool) (l : List Leg) (k : Nat) (hk : k < l.length) : legSum p (l.take (k + 1)) = legSum p (l.take k) + (if p l[k] then l[k].amt else 0) := by
  rw [List.take_succ_eq_append_getElem hk, legSum_append, legSum_cons, legSum_nil]; omega
set_option maxRecDepth 100000 in
set_option maxHeartbeats 4000000 in
theorem worth_any (p c d : Nat) (v : Value) (vs : List Value) (s : Led) (q : ByteArray) (w : World) (hs : Inv s) (h : LedAt w p c d v vs s) :
    Calls Try.prog 44 #[.pointer (some ⟨p, 0, none⟩), .string q] w fun e w' => e = .returned (worthV s q) ∧ Below w.heap.size w w' := by
  obtain ⟨A, cp, hv, -, hcells⟩ := own_shape h.own
  subst hv
  obtain ⟨e0, e1, e2, -⟩ := h.cell
  have HIN : HoldsIn w A s.holds vs := ⟨hcells, h.hv⟩
  have HHI := Lib.hid HIN
  have hlh := hs.lh
  have hl1 := look_coins h.mc q true
  simp only [if_true] at hl1
  obtain ⟨g, hg⟩ : ∃ g, (mget s.coins q).getD 0 = g := ⟨_, rfl⟩
  obtain ⟨th, hth⟩ : ∃ th, (mget s.coins q).isSome = th := ⟨_, rfl⟩
  rw [hg, hth] at hl1
  obtain ⟨R, hR⟩ : ∃ R, worthV s q = R := ⟨_, rfl⟩
  rw [hR]
  have HRV := Lib.hid hR
  have H := Lib.hid h
  have HS := Lib.hid hs
  have HG := Lib.hid hg
  have HTH := Lib.hid hth
  cases th with
  | false =>
    clear HIN hcells hR hg hth h hs
    go_enter Try.func44, Try.ntmps44
    go_wp2_with fail
    go_ret2
    have hr : R = .tuple #[.int .i64 0, .bool false] := by rw [← HRV.out]; unfold worthV; rw [if_neg (by rw [HTH.out]; simp)]
    rw [hr]
    exact ⟨rfl, Below.refl _ _⟩
  | true =>
    have hw := worth_le hs hth
    have htot := hs.tot
    have hw0 : worth s q = g * 1000 + asum (fun c => (c.has q).getD 0) s.chans + holdSum (fun x => x.src == q) s.holds := by unfold worth; rw [hg]
    have hpos : ∀ z ∈ s.holds, ∀ y ∈ z.legs, 1 ≤ y.amt := fun z hz y hy => (hs.hs z hz y hy).lo
    have hhn := holdSum_nonneg (fun x => x.src == q) s.holds hpos
    have hga : 0 ≤ g := by rw [← hg]; exact getD_pos hs.pos q
    have hcn : ∀ x ∈ s.chans, 0 ≤ (fun c : Chan => (c.has q).getD 0) x.2 := fun x hx => by
      have ho := mem_ch hs x hx
      cases hx2 : x.2.has q with
      | none => simp [hx2]
      | some n => simpa [hx2] using has_nonneg ho hx2
    have hca := asum_nonneg (fun c => (c.has q).getD 0) s.chans hcn
    unfold maxCoin at htot
    obtain ⟨B, hB⟩ : ∃ B, g * 1000 + asum (fun c => (c.has q).getD 0) s.chans = B := ⟨_, rfl⟩
    obtain ⟨D, hD⟩ : ∃ D, holdSum (fun x => x.src == q) s.holds = D := ⟨_, rfl⟩
    rw [hB, hD] at hw0
    rw [hD] at hhn
    have hBD : B + D ≤ 2100000000000000000 := by omega
    have hB0 : 0 ≤ B := by omega
    have hg1 : ¬ 2100000000000000 < g := by omega
    have HB := Lib.hid hB
    have HD := Lib.hid hD
    have HW0 := Lib.hid hw0
    have HCN := Lib.hid hcn
    have HPOS := Lib.hid hpos
    have hdl := h.md.lt
    have HMD := Lib.hid h.md
    clear HIN hcells hR hg hth h hs hw htot hw0 hpos hcn hca hB hD
    go_enter Try.func44, Try.ntmps44
    go_wp2_with (at_range; refine wpList_srange _ rfl _ _ rfl 9 87 Try.underlying65 d _ rfl HMD.out ?_; intro w1 hrg hgg hsz; go_frame)
    have hb1 : Below w.heap.size w w1 := (Below.refl _ _).grown hgg (Nat.le_refl _) (by intro k hk; cases hk)
    have HRG := Lib.hid hrg
    have HB1 := Lib.hid hb1
    clear hrg hgg hb1 hsz
    go_loopg [8] s.chans.length (fun k n wr => ∃ (td : List (ByteArray × Chan)) (m : Int), k = td.length ∧ n = .int .i64 m ∧ m + asum (fun c => (c.has q).getD 0) td = B ∧ 0 ≤ m ∧ (∀ x ∈ td, 0 ≤ (fun c : Chan => (c.has q).getD 0) x.2) ∧ SRange wr d w.heap.size (menc encC s.chans) (menc encC td) ∧ Below w.heap.size w wr)
    case atStart => exact ⟨s.chans, g * 1000, rfl, rfl, HB.out, by omega, HCN.out, HRG.out, HB1.out⟩
    case round =>
      obtain ⟨td, m, hk, rfl, hsum, hm0, hall, hrg, hbr⟩ := hrel
      have HK := Lib.hid hk
      have HSUM := Lib.hid hsum
      have HALL := Lib.hid hall
      have HRG2 := Lib.hid hrg
      have HBR := Lib.hid hbr
      clear hk hsum hall hrg hbr
      go_wp2_with (at_next; refine wpList_snext _ encC encC_inj rfl _ rfl d w.heap.size _ td rfl HRG2.out ?_ ?_)
      · intro htd
        have hsum := HSUM.out
        rw [htd, asum_nil, Int.add_zero] at hsum
        subst hsum
        have k2 : wr.cell? ⟨p, 2, none⟩ = some (.slice A s.holds.length cp) := cell_below HBR.out e2
        clear htd e0 e1 e2
        go_wp2_with fail
        go_loopw [8, 56] (fun n i wr => ∃ k : Nat, k ≤ s.holds.length ∧ i = .int .i64 k ∧ n = .int .i64 (m + holdSum (fun x => x.src == q) (s.holds.take k)) ∧ Below w.heap.size w wr) (fun _ i _ => s.holds.length - (intOf i).toNat)
        case atStart => exact ⟨0, Nat.zero_le _, rfl, by simp [holdSum], HBR.out⟩
        case round =>
          obtain ⟨k, hk, rfl, rfl, hb⟩ := hrel
          have HBK := Lib.hid hb
          obtain ⟨t1, t2⟩ := holdSum_take (fun x => x.src == q) s.holds HPOS.out k
          rw [HD.out] at t1
          obtain ⟨M, hM⟩ : ∃ M, holdSum (fun x => x.src == q) (s.holds.take k) = M := ⟨_, rfl⟩
          rw [hM] at t1 t2 ⊢
          have HM := Lib.hid hM
          by_cases hkl : k < s.holds.length
          · obtain ⟨ad, Bl, c', rfl, -, -, hown⟩ := HHI.out.look hkl
            obtain ⟨ad2, Bl2, c2, hae, hc0, hc1, hown2⟩ := (HHI.out.below hb).look hkl
            injection hae with hae
            subst hae
            have hlw : LegsIn wr Bl2 s.holds[k].legs := legs_of_own hown2
            have hll := HS.out.hl _ (List.getElem_mem hkl)
            have hst := holdSum_step (fun x => x.src == q) s.holds k hkl
            have hst2 := (holdSum_take (fun x => x.src == q) s.holds HPOS.out (k + 1)).1
            rw [HD.out] at hst2
            rw [hM] at hst
            have hps := HPOS.out _ (List.getElem_mem hkl)
            obtain ⟨z, hz⟩ : ∃ z, s.holds[k] = z := ⟨_, rfl⟩
            rw [hz] at hc0 hc1 hlw hll hst hps
            have hle : M + legSum (fun x => x.src == q) z.legs ≤ D := by omega
            have HST := Lib.hid hst
            have HPS := Lib.hid hps
            have HLW := Lib.hid hlw
            clear hown hown2 hst hst2 hps hM hb hlw hz
            obtain ⟨wo, hwo⟩ : ∃ wo : World, wo = wr := ⟨_, rfl⟩
            subst hwo
            go_wp2_with fail
            go_loopw [8, 63] (fun n j wr => ∃ t : Nat, t ≤ z.legs.length ∧ j = .int .i64 t ∧ n = .int .i64 (m + M + legSum (fun x => x.src == q) (z.legs.take t)) ∧ Below w.heap.size w wr ∧ Below wo.heap.size wo wr) (fun _ j _ => z.legs.length - (intOf j).toNat)
            case atStart => exact ⟨0, Nat.zero_le _, rfl, by simp [legSum], HBK.out.alloc HBK.out.size _, (Below.refl _ _).alloc (Nat.le_refl _) _⟩
            case round =>
              obtain ⟨t, ht, rfl, rfl, hbt, hbo⟩ := hrel
              have HBT := Lib.hid hbt
              have HBO := Lib.hid hbo
              have u1 := legSum_take (fun x => x.src == q) z.legs HPS.out t
              have u2 := legSum_nonneg (fun x => x.src == q) (z.legs.take t) fun y hy => HPS.out y (List.mem_of_mem_take hy)
              by_cases htl : t < z.legs.length
              · obtain ⟨la, rfl, l0, l1, l2⟩ := (LegsIn.look (Cells.below HLW.out hbo) htl)
                have u3 := legSum_take (fun x => x.src == q) z.legs HPS.out (t + 1)
                have u4 := legSum_step (fun x => x.src == q) z.legs t htl
                have u5 := HPS.out _ (List.getElem_mem htl)
                obtain ⟨Y, hY⟩ : ∃ Y, z.legs[t] = Y := ⟨_, rfl⟩
                rw [hY] at l0 l1 l2 u4 u5
                obtain ⟨N, hN⟩ : ∃ N, legSum (fun x => x.src == q) (z.legs.take t) = N := ⟨_, rfl⟩
                rw [hN] at u1 u2 u4 ⊢
                by_cases hq : Y.src = q
                · have hbq : (Y.src == q) = true := (ch_beq _ _).2 hq
                  simp only [hbq, if_true] at u4
                  have hb1 : 0 ≤ m + M + N + Y.amt := by omega
                  have hb2 : m + M + N + Y.amt ≤ 2100000000000000000 := by omega
                  have hb3 : 0 ≤ m + M + N := by omega
                  have hb4 : m + M + N ≤ 2100000000000000000 := by omega
                  have he := tl_t hq
                  have HU4 := Lib.hid u4
                  clear hbt hbo hq hbq u4 u3
                  go_wp2_with fail
                  go_roundw
                  case rel => exact ⟨t + 1, by omega, by go_num, by rw [HU4.out]; congr 1; omega, (HBT.out.alloc HBT.out.size _), (HBO.out.alloc HBO.out.size _)⟩
                  case measure => simp [intOf]; omega
                · have hbq : (Y.src == q) = false := by cases hx : (Y.src == q) with
                    | false => rfl
                    | true => exact absurd ((ch_beq _ _).1 hx) hq
                  simp only [hbq, Bool.false_eq_true, if_false] at u4
                  have he := tl_f hq
                  have HU4 := Lib.hid u4
                  clear hbt hbo hq hbq u4 u3
                  go_wp2_with fail
                  go_roundw
                  case rel => exact ⟨t + 1, by omega, by go_num, by rw [HU4.out]; congr 1; omega, (HBT.out.alloc HBT.out.size _), (HBO.out.alloc HBO.out.size _)⟩
                  case measure => simp [intOf]; omega
              · have hte : z.legs.take t = z.legs := List.take_of_length_le (by omega)
                rw [hte]
                clear hbt hbo
                go_wp2_with fail
                go_roundw
                case rel => exact ⟨k + 1, by omega, by go_num, by rw [HST.out]; congr 1; omega, HBT.out⟩
                case measure => simp [intOf]; omega
          · have hke : s.holds.take k = s.holds := List.take_of_length_le (by omega)
            rw [hke, HD.out] at hM
            subst hM
            have hr : R = .tuple #[.int .i64 (m + D), .bool true] := by rw [← HRV.out]; unfold worthV; rw [if_pos HTH.out, HW0.out]
            have HRR := Lib.hid hr
            clear hb hr hke
            go_wp2_with fail
            go_ret2
            rw [HRR.out]
            exact ⟨rfl, HBK.out⟩
      · intro key x td' w4 hp hrg2 hg2 hsz2 hen
        have hen' : (Instr.entry (.pointer (some ⟨w.heap.size, 0, none⟩))).run Try.prog w4 = .ok (.tuple #[.string key, .agg #[.string x.name, .string x.a, .string x.b, .int .i64 x.cap, .int .i64 x.hasA, .int .i64 x.hasB]]) w4 := hen
        clear hen
        have hsm := cons_perm_sum (fun c : Chan => (c.has q).getD 0) hp
        obtain ⟨hx0, hall'⟩ := cons_perm_all hp HALL.out
        have hx0' : 0 ≤ (x.has q).getD 0 := hx0
        have hs' := asum_nonneg (fun c : Chan => (c.has q).getD 0) td' hall'
        have hsum' := HSUM.out
        have hsm' : asum (fun c : Chan => (c.has q).getD 0) td = (x.has q).getD 0 + asum (fun c : Chan => (c.has q).getD 0) td' := hsm
        have hb1 : 0 ≤ m + (x.has q).getD 0 := by omega
        have hb2 : m + (x.has q).getD 0 ≤ 2100000000000000000 := by omega
        have hb3 : m ≤ 2100000000000000000 := by omega
        have hlen : td.length = td'.length + 1 := by rw [hp.length_eq]; rfl
        have HA2 := Lib.hid hall'
        have HS3 := Lib.hid (show m + (x.has q).getD 0 + asum (fun c : Chan => (c.has q).getD 0) td' = B by omega)
        have HLEN := Lib.hid hlen
        have HRG3 := Lib.hid hrg2
        have HB4 := Lib.hid (HBR.out.grown hg2 HBR.out.size (by intro k hk; injection hk with hk; omega))
        have hcl4 : (w4.alloc (.cells #[.string x.name, .string x.a, .string x.b, .int .i64 x.cap, .int .i64 x.hasA, .int .i64 x.hasB] 87)).heap[w4.heap.size]? = some (.cells #[.string x.name, .string x.a, .string x.b, .int .i64 x.cap, .int .i64 x.hasA, .int .i64 x.hasB] 87) := Go.heap_alloc_new w4 _
        have HCL4 := Lib.hid hcl4
        clear hsm hx0 hall' hs' hsum' hsm' hlen hrg2 hg2 hsz2 hp hcl4
        go_wp2_with fail
        refine (side_any w4.heap.size x q _ (ChanAt.cells (c := x) HCL4.out).1 (ChanAt.cells (c := x) HCL4.out).2.1).mono ?_
        rintro e w5 ⟨rfl, rfl⟩
        rcases has_side w4.heap.size x q with ⟨h1, h2⟩ | ⟨-, h1, h2⟩ | ⟨-, -, h1, h2⟩
        · rw [h2]
          rw [h1] at hb1 hb2
          have hz : (x.has q).getD 0 = 0 := by rw [h1]; rfl
          have HZ := Lib.hid hz
          clear h1 h2 hz hb1 hb2
          go_wp2_with fail
          go_roundg td'.length
          case measure => rw [HK.out, HLEN.out]; omega
          case rel =>
            refine ⟨td', _, rfl, rfl, ?_, by omega, HA2.out, ?_, ?_⟩
            · have := HS3.out; rw [HZ.out] at this; omega
            · exact HRG3.out.kept (Go.heap_alloc_old _ _ HRG3.out.map.lt) (Go.heap_alloc_old _ _ HRG3.out.lt)
            · exact HB4.out.alloc HB4.out.size _
        · rw [h2]
          rw [h1] at hb1 hb2 hx0'
          have HZ := Lib.hid h1
          simp only [Option.getD_some] at hb1 hb2 hx0'
          clear h1 h2
          go_wp2_with fail
          go_roundg td'.length
          case measure => rw [HK.out, HLEN.out]; omega
          case rel =>
            refine ⟨td', _, rfl, rfl, ?_, by omega, HA2.out, ?_, ?_⟩
            · have := HS3.out; rw [HZ.out] at this; exact this
            · exact HRG3.out.kept (Go.heap_alloc_old _ _ HRG3.out.map.lt) (Go.heap_alloc_old _ _ HRG3.out.lt)
            · exact HB4.out.alloc HB4.out.size _
        · rw [h2]
          rw [h1] at hb1 hb2 hx0'
          have HZ := Lib.hid h1
          simp only [Option.getD_some] at hb1 hb2 hx0'
          clear h1 h2
          go_wp2_with fail
          go_roundg td'.length
          case measure => rw [HK.out, HLEN.out]; omega
          case rel =>
            refine ⟨td', _, rfl, rfl, ?_, by omega, HA2.out, ?_, ?_⟩
            · have := HS3.out; rw [HZ.out] at this; exact this
            · exact HRG3.out.kept (Go.heap_alloc_old _ _ HRG3.out.map.lt) (Go.heap_alloc_old _ _ HRG3.out.lt)
            · exact HB4.out.alloc HB4.out.size _
end Go.Proofs.Ytmlcojhanimnpaa
