/- The law: a file that was synced is what it was. -/
import Derived.Test.YtikbphafpmdpeaaQ5
set_option linter.all false
namespace Go.Proofs.Ytikbphafpmdpeaa
open Go.RowKit

theorem slU8 : SlTyK Try.prog 23 5 (.int .u8 0) 1 1 := ⟨Try.underlying23, by kernel_rfl, rfl, by decide⟩
theorem cell_early {W V : World} (hk : ∀ i, i < W.heap.size → V.heap[i]? = W.heap[i]?) {a : Addr} {v : Value} (h : W.cell? a = some v) : V.cell? a = some v := by
  have hl := World.block_lt_of_cell? W _ h
  unfold World.cell? at h ⊢
  rw [hk _ hl]; exact h
/-- A call's cells, later. -/
theorem ops_look {W V : World} (hk : ∀ i, i < W.heap.size → V.heap[i]? = W.heap[i]?) {A : Option Addr} {l : List OpT} (h : OpsIn W A l) {i : Nat} (hi : i < l.length) : ∃ ad, A = some ad ∧ V.cell? (ad.add (i * 7)) = some (.int .u8 (l[i].kind : Int)) ∧
    V.cell? ⟨(ad.add (i * 7)).block, (ad.add (i * 7)).off + 1, none⟩ = some (.string l[i].name) ∧ V.cell? ⟨(ad.add (i * 7)).block, (ad.add (i * 7)).off + 2, none⟩ = some (.string l[i].dst) ∧ V.cell? ⟨(ad.add (i * 7)).block, (ad.add (i * 7)).off + 3, none⟩ = some (.int .i64 l[i].page) ∧
    V.cell? ⟨(ad.add (i * 7)).block, (ad.add (i * 7)).off + 4, none⟩ = some (.int .u16 (l[i].long : Int)) ∧ V.cell? ⟨(ad.add (i * 7)).block, (ad.add (i * 7)).off + 5, none⟩ = some (.int .u8 (l[i].fill.toNat : Int)) ∧ V.cell? ⟨(ad.add (i * 7)).block, (ad.add (i * 7)).off + 6, none⟩ = some (.int .u64 (l[i].keep : Int)) := by
  obtain ⟨ad, e, h0, h1, h2, h3, h4, h5, h6⟩ := h i hi
  exact ⟨ad, e, cell_early hk h0, by rw [next_add _ _ _ (by decide)]; exact cell_early hk h1, by rw [next_add _ _ _ (by decide)]; exact cell_early hk h2, by rw [next_add _ _ _ (by decide)]; exact cell_early hk h3, by rw [next_add _ _ _ (by decide)]; exact cell_early hk h4,
    by rw [next_add _ _ _ (by decide)]; exact cell_early hk h5, by rw [next_add _ _ _ (by decide)]; exact cell_early hk h6⟩
theorem fr_early {W w V : World} {F : List Nat} (hb : Below W.heap.size W w) (hf : Fr F w V) (hF : ∀ i ∈ F, W.heap.size ≤ i) : Below W.heap.size W V := hb.trans (hf.toBelowOf hb.size hF)
theorem duo_new {W w1 w2 : World} {p q : Nat} {F0 : List Nat} {n k : Int} {vf vo : Value} {vs : List Value} (h1 : DkO w1 p F0 (newD n)) (hb1 : Below W.heap.size W w1) (hlo : ∀ i ∈ F0, W.heap.size ≤ i) (h2 : RfAt w2 q vf vo vs (newR k)) (hn : ∀ i ∈ fpR q vf vo, w1.heap.size ≤ i) (hb2 : Below w1.heap.size w1 w2) :
    Gone w2 p q F0 (fpR q vf vo) (newD n) (newR k) w2 ∧ Below W.heap.size W w2 ∧ ∀ i ∈ F0 ++ fpR q vf vo, W.heap.size ≤ i :=
  ⟨⟨_, _, Went.refl ⟨h1.below hb2, ⟨⟨vf, vo, vs, rfl, h2⟩, newR_inv k⟩, fun i hi hi2 => absurd (h1.lt i hi) (by have := hn i hi2; omega)⟩⟩, hb1.trans (hb2.mono hb1.size), fun i hi => by
    rcases List.mem_append.1 hi with h | h
    · exact hlo i h
    · exact Nat.le_trans hb1.size (hn i h)⟩
/-- From here on. -/
theorem Gone.again {W w : World} {p q : Nat} {Fd0 Fm0 : List Nat} {d : DiskT} {m : RefT} {N : Nat} (h : Gone W p q Fd0 Fm0 d m w) (hF : ∀ i ∈ Fd0 ++ Fm0, N ≤ i) (hN : N ≤ W.heap.size) : ∃ Fd Fm, Duo w p q Fd Fm d m ∧ (∀ i ∈ Fd ++ Fm, N ≤ i) ∧ ∀ i ∈ Fd ++ Fm, i < w.heap.size := by
  obtain ⟨Fd, Fm, h⟩ := h
  refine ⟨Fd, Fm, h.duo, fun i hi => ?_, h.duo.lt⟩
  rcases List.mem_append.1 hi with hi | hi
  · rcases h.nd i hi with h1 | h1
    · exact hF i (List.mem_append_left _ h1)
    · omega
  · rcases h.nm i hi with h1 | h1
    · exact hF i (List.mem_append_right _ h1)
    · omega
theorem Gone.here {w : World} {p q : Nat} {Fd Fm : List Nat} {d : DiskT} {m : RefT} (h : Duo w p q Fd Fm d m) : Gone w p q Fd Fm d m w := ⟨_, _, Went.refl h⟩
set_option maxRecDepth 100000 in
set_option maxHeartbeats 16000000 in
theorem keeps_law {la lb : List OpT} {A1 A2 At : Option Addr} {c1 c2 nt ct keep : Nat} {name : ByteArray} {text : List UInt8} {W : World} (ha : OpsIn W A1 la) (hb : OpsIn W A2 lb) (ht : Cells W At (bv text)) (hnt : text.length = nt) (hct : nt ≤ ct) (hoa : ∀ x ∈ la, x.Ok) (hob : ∀ x ∈ lb, x.Ok)
    (hla : la.length ≤ 140737488355328) (hlb : lb.length ≤ 140737488355328) (hntl : ct ≤ 140737488355328) (hkeep : keep < 18446744073709551616) :
    Calls Try.prog 3 #[.slice A1 la.length c1, .slice A2 lb.length c2, .string name, .slice At nt ct, .int .u64 (keep : Int)] W fun e w' => e = .returned (.bool true) ∧ Below W.heap.size W w' := by
  have HA := Lib.hid ha
  have HB := Lib.hid hb
  have HT := Lib.hid ht
  have HNT := Lib.hid hnt
  have HOA := Lib.hid hoa
  have HOB := Lib.hid hob
  have HKP := Lib.hid hkeep
  clear ha hb ht hnt hoa hob hkeep
  by_cases h1 : 40 < la.length
  · have h1' : ((la.length : Int) > 40) := by omega
    go_enter Try.func3, Try.ntmps3
    go_wp2_with fail
    refine (works_any _).mono ?_
    rintro e wz ⟨rfl, hbz⟩
    have HBZ := Lib.hid hbz
    clear hbz
    go_wp2_with fail
    go_ret
    exact ⟨rfl, HBZ.out⟩
  · have h1' : ¬ ((la.length : Int) > 40) := by omega
    by_cases h2 : 40 < lb.length
    · have h2' : ((lb.length : Int) > 40) := by omega
      go_enter Try.func3, Try.ntmps3
      go_wp2_with fail
      refine (works_any _).mono ?_
      rintro e wz ⟨rfl, hbz⟩
      have HBZ := Lib.hid hbz
      clear hbz
      go_wp2_with fail
      go_ret
      exact ⟨rfl, HBZ.out⟩
    · have h2' : ¬ ((lb.length : Int) > 40) := by omega
      by_cases h3 : 900 < nt
      · have h3' : ((nt : Int) > 900) := by omega
        go_enter Try.func3, Try.ntmps3
        go_wp2_with fail
        refine (works_any _).mono ?_
        rintro e wz ⟨rfl, hbz⟩
        have HBZ := Lib.hid hbz
        clear hbz
        go_wp2_with fail
        go_ret
        exact ⟨rfl, HBZ.out⟩
      · have h3' : ¬ ((nt : Int) > 900) := by omega
        go_enter Try.func3, Try.ntmps3
        go_wp2_with fail
        go_loop [11] (fun i => ∃ j : Nat, j ≤ la.length ∧ i = .int .i64 j ∧ ∀ k (hk : k < la.length), k < j → name ≠ la[k].name ∧ name ≠ la[k].dst) (fun i => la.length - (intOf i).toNat)
        case atStart => exact ⟨0, Nat.zero_le _, rfl, fun _ _ h => by omega⟩
        case round =>
          obtain ⟨j, hj, rfl, hall⟩ := hrel
          have HALL := Lib.hid hall
          clear hall
          by_cases hlt : j < la.length
          · obtain ⟨ad, had, -, q1, q2, -⟩ := ops_look (fun _ _ => rfl) HA.out hlt
            subst had
            have hji : ((j : Nat) : Int) < la.length := by omega
            by_cases e1 : la[j].name = name
            · have e1' := tl_t e1
              obtain ⟨P, hP⟩ : ∃ P, la[j].name = P := ⟨_, rfl⟩
              rw [hP] at q1 e1'
              clear e1 hP
              go_wp2_with fail
              refine (works_any _).mono ?_
              rintro e wz ⟨rfl, hbz⟩
              have HBZ := Lib.hid hbz
              clear hbz
              go_wp2_with fail
              go_ret
              exact ⟨rfl, HBZ.out⟩
            · have e1' := tl_f e1
              have HE1 := Lib.hid e1
              obtain ⟨P, hP⟩ : ∃ P, la[j].name = P := ⟨_, rfl⟩
              rw [hP] at q1 e1'
              clear e1 hP
              by_cases e2 : la[j].dst = name
              · have e2' := tl_t e2
                obtain ⟨P2, hP2⟩ : ∃ P, la[j].dst = P := ⟨_, rfl⟩
                rw [hP2] at q2 e2'
                clear e2 hP2
                go_wp2_with fail
                refine (works_any _).mono ?_
                rintro e wz ⟨rfl, hbz⟩
                have HBZ := Lib.hid hbz
                clear hbz
                go_wp2_with fail
                go_ret
                exact ⟨rfl, HBZ.out⟩
              · have e2' := tl_f e2
                have HE2 := Lib.hid e2
                obtain ⟨P2, hP2⟩ : ∃ P, la[j].dst = P := ⟨_, rfl⟩
                rw [hP2] at q2 e2'
                clear e2 hP2
                go_wp2_with fail
                go_round
                case rel =>
                  refine ⟨j + 1, hlt, by go_num, fun k hk hkj => ?_⟩
                  rcases Nat.lt_or_ge k j with h | h
                  · exact HALL.out k hk h
                  · obtain rfl : k = j := by omega
                    exact ⟨fun e => HE1.out e.symm, fun e => HE2.out e.symm⟩
                case measure => simp [intOf]; omega
          · have hji : ¬ ((j : Nat) : Int) < la.length := by omega
            have HNA := Lib.hid (show ∀ x ∈ la, name ≠ x.name ∧ name ≠ x.dst from fun x hx => by
              obtain ⟨k, hk, rfl⟩ := List.getElem_of_mem hx
              exact HALL.out k hk (by omega))
            clear HALL
            go_wp2_with fail
            go_loop [12] (fun i => ∃ j : Nat, j ≤ lb.length ∧ i = .int .i64 j ∧ ∀ k (hk : k < lb.length), k < j → name ≠ lb[k].name ∧ name ≠ lb[k].dst) (fun i => lb.length - (intOf i).toNat)
            case atStart => exact ⟨0, Nat.zero_le _, rfl, fun _ _ h => by omega⟩
            case round =>
              obtain ⟨j, hj, rfl, hall⟩ := hrel
              have HALL := Lib.hid hall
              clear hall
              by_cases hlt : j < lb.length
              · obtain ⟨ad, had, -, q1, q2, -⟩ := ops_look (fun _ _ => rfl) HB.out hlt
                subst had
                have hji : ((j : Nat) : Int) < lb.length := by omega
                by_cases e1 : lb[j].name = name
                · have e1' := tl_t e1
                  obtain ⟨P, hP⟩ : ∃ P, lb[j].name = P := ⟨_, rfl⟩
                  rw [hP] at q1 e1'
                  clear e1 hP
                  go_wp2_with fail
                  refine (works_any _).mono ?_
                  rintro e wz ⟨rfl, hbz⟩
                  have HBZ := Lib.hid hbz
                  clear hbz
                  go_wp2_with fail
                  go_ret
                  exact ⟨rfl, HBZ.out⟩
                · have e1' := tl_f e1
                  have HE1 := Lib.hid e1
                  obtain ⟨P, hP⟩ : ∃ P, lb[j].name = P := ⟨_, rfl⟩
                  rw [hP] at q1 e1'
                  clear e1 hP
                  by_cases e2 : lb[j].dst = name
                  · have e2' := tl_t e2
                    obtain ⟨P2, hP2⟩ : ∃ P, lb[j].dst = P := ⟨_, rfl⟩
                    rw [hP2] at q2 e2'
                    clear e2 hP2
                    go_wp2_with fail
                    refine (works_any _).mono ?_
                    rintro e wz ⟨rfl, hbz⟩
                    have HBZ := Lib.hid hbz
                    clear hbz
                    go_wp2_with fail
                    go_ret
                    exact ⟨rfl, HBZ.out⟩
                  · have e2' := tl_f e2
                    have HE2 := Lib.hid e2
                    obtain ⟨P2, hP2⟩ : ∃ P, lb[j].dst = P := ⟨_, rfl⟩
                    rw [hP2] at q2 e2'
                    clear e2 hP2
                    go_wp2_with fail
                    go_round
                    case rel =>
                      refine ⟨j + 1, hlt, by go_num, fun k hk hkj => ?_⟩
                      rcases Nat.lt_or_ge k j with h | h
                      · exact HALL.out k hk h
                      · obtain rfl : k = j := by omega
                        exact ⟨fun e => HE1.out e.symm, fun e => HE2.out e.symm⟩
                    case measure => simp [intOf]; omega
              · have hji : ¬ ((j : Nat) : Int) < lb.length := by omega
                have HNB := Lib.hid (show ∀ x ∈ lb, name ≠ x.name ∧ name ≠ x.dst from fun x hx => by
                  obtain ⟨k, hk, rfl⟩ := List.getElem_of_mem hx
                  exact HALL.out k hk (by omega))
                clear HALL
                go_wp2_with fail
                refine (new_o 300 _).mono ?_
                rintro e w1 ⟨p, F0, rfl, hd1, hbn1, hlo1⟩
                have HD1 := Lib.hid hd1
                have HBN1 := Lib.hid hbn1
                have HLO1 := Lib.hid hlo1
                clear hd1 hbn1 hlo1
                go_wp2_with fail
                refine (rnew_any 300 _).mono ?_
                rintro e w2 ⟨q, vf, vo, vs, rfl, hr2, hnr, hbn2⟩
                have HALL := Lib.hid (duo_new HD1.out HBN1.out HLO1.out hr2 hnr hbn2)
                have HG := Lib.hid HALL.out.1
                have HBW := Lib.hid HALL.out.2.1
                have HLO := Lib.hid HALL.out.2.2
                generalize fpR q vf vo = Fm0 at HG HLO
                clear HALL HD1 HBN1 HLO1 hr2 hnr hbn2
                go_wp2_with fail
                go_loopw [15] (fun i wr => ∃ j : Nat, j ≤ la.length ∧ i = .int .i64 j ∧ Gone w2 p q F0 Fm0 (playsD (newD 300) (la.take j)) (playsR (newR 300) (la.take j)) wr) (fun i _ => la.length - (intOf i).toNat)
                case atStart => exact ⟨0, Nat.zero_le _, rfl, HG.out⟩
                case round =>
                  obtain ⟨j, hj, rfl, hg⟩ := hrel
                  have HG := Lib.hid hg
                  clear hg
                  by_cases hlt : j < la.length
                  · have hkw := (fr_early HBW.out HG.out.fr HLO.out).block
                    obtain ⟨ad, had, q0, q1, q2, q3, q4, q5, q6⟩ := ops_look hkw HA.out hlt
                    subst had
                    have hji : ((j : Nat) : Int) < la.length := by omega
                    have hz0 : (newD 300).steps = 0 := rfl
                    have hz1 : (newR 300).count = 0 := rfl
                    have hst1 := playsD_steps (la.take j) (newD 300)
                    have hst2 := playsR_count (la.take j) (newR 300)
                    rw [List.length_take] at hst1 hst2
                    have HPL := Lib.hid (HG.out.plays (x := la[j]) (by omega) (by omega) (HOA.out _ (List.getElem_mem hlt)))
                    have HS1 := Lib.hid (playsD_snoc (newD 300) la hlt)
                    have HS2 := Lib.hid (playsR_snoc (newR 300) la hlt)
                    obtain ⟨kd, nm, ds, pg, lg, fl, kp⟩ := la[j]
                    clear hkw hst1 hst2 hz0 hz1
                    go_wp2_with fail
                    refine HPL.out.mono ?_
                    rintro e w' ⟨rfl, hg2⟩
                    have HG2 := Lib.hid hg2
                    clear hg2
                    go_wp2_with fail
                    go_roundw
                    case rel => exact ⟨j + 1, hlt, by go_num, by rw [HS1.out, HS2.out]; exact HG2.out⟩
                    case measure => simp [intOf]; omega
                  · have hji : ¬ ((j : Nat) : Int) < la.length := by omega
                    have hje : la.take j = la := List.take_of_length_le (by omega)
                    have hg3 := HG.out
                    rw [hje] at hg3
                    have HG := Lib.hid hg3
                    clear hg3 hje
                    have hst := playsD_steps la (newD 300)
                    have hst0 : (newD 300).steps = 0 := rfl
                    have hstm := playsR_count la (newR 300)
                    have hstm0 : (newR 300).count = 0 := rfl
                    rw [hst0] at hst
                    rw [hstm0] at hstm
                    generalize playsD (newD 300) la = d1 at HG hst
                    generalize playsR (newR 300) la = m1 at HG hstm
                    go_wp2_with fail
                    refine (HG.out.on (by omega)).mono ?_
                    rintro e w3 ⟨rfl, hg⟩
                    have HG := Lib.hid hg
                    clear hg
                    have hof2 := on_off d1
                    have hs2 := on_steps d1
                    generalize onD d1 = d2 at HG hof2 hs2
                    go_wp2_with fail
                    refine (HG.out.fail (n := 1073741824) (k := 0) (by decide) (by decide)).mono ?_
                    rintro e w4 ⟨rfl, hg⟩
                    have HG := Lib.hid hg
                    clear hg
                    have hs3 : (failD d2 1073741824 0).steps = d2.steps := fail_steps _ _ _
                    have hof3 : (failD d2 1073741824 0).off = false ∧ ∃ k, (failD d2 1073741824 0).set = some (1073741824, k) := by rw [fail_set hof2]; exact ⟨hof2, 0, rfl⟩
                    generalize failD d2 1073741824 0 = d3 at HG hs3 hof3
                    have hcr := HG.out.create (by omega) name
                    have HNC := Lib.hid (near_create (name := name) hof3.1 hof3.2)
                    have hs4 := create_steps d3 name
                    obtain ⟨r4, hr4⟩ : ∃ r, (createD d3 name).1 = r := ⟨_, rfl⟩
                    rw [hr4] at hcr HNC
                    have HCR := Lib.hid hcr
                    generalize (createD d3 name).2 = d4 at HCR HNC hs4
                    clear hcr hr4 hof2 hof3
                    by_cases hz : r4 = 0
                    · subst hz
                      have HNR := Lib.hid (HNC.out rfl)
                      clear HNC
                      go_wp2_with fail
                      refine HCR.out.mono ?_
                      rintro e w4' ⟨rfl, hg⟩
                      have HG := Lib.hid hg
                      clear hg HCR
                      go_wp2_with fail
                      go_loopw [3, 16] (fun tv nv wr => ∃ (j : Nat) (A : Option Addr) (c : Nat) (P : List PageT) (d : DiskT), j ≤ nt ∧ tv = .slice A (nt - j) c ∧ nt - j ≤ c ∧ (∀ V : World, (∀ i, i < W.heap.size → V.heap[i]? = W.heap[i]?) → Cells V A (bv (text.drop j))) ∧ nv = .int .i64 (P.length : Nat) ∧ P.length ≤ j ∧ Near d name P ∧ d.steps ≤ 50 + P.length ∧ Gone w2 p q F0 Fm0 d m1 wr) (fun tv _ _ => lenV tv)
                      case atStart => exact ⟨0, At, ct, [], d4, Nat.zero_le _, rfl, hct, fun V hV hn => by
                        obtain ⟨ad, e, hc⟩ := HT.out hn
                        exact ⟨ad, e, fun k u hk => cell_early hV (hc k u hk)⟩, rfl, Nat.le_refl _, HNR.out, by simp; omega, HG.out⟩
                      case round =>
                        obtain ⟨j, A, c, P, d, hj, rfl, hjc, hcl, rfl, hPj, hnr, hds, hg⟩ := hrel
                        have HNR := Lib.hid hnr
                        have HG := Lib.hid hg
                        have HCL := Lib.hid hcl
                        clear hnr hg hcl
                        by_cases hlt : j < nt
                        · obtain ⟨k, hk⟩ : ∃ k, min (nt - j) 256 = k := ⟨_, rfl⟩
                          have hk1 : 1 ≤ k := by omega
                          have hk2 : k ≤ nt - j := by omega
                          have hk3 : k ≤ 256 := by omega
                          have hclw := HCL.out wr (fr_early HBW.out HG.out.fr HLO.out).block
                          have hclk : Cells wr A (bv ((text.drop j).take k)) := by
                            have h1 := hclw.take k
                            have e : (bv (text.drop j)).take k = bv ((text.drop j).take k) := by simp [bv, List.map_take]
                            rw [e] at h1; exact h1
                          have hlk : ((text.drop j).take k).length = k := by rw [List.length_take, List.length_drop, HNT.out]; omega
                          have hwr := HG.out.write (by omega) name (P.length : Nat) ((text.drop j).take k) A k c hclk hlk
                          have HNW := Lib.hid (near_write HNR.out (by omega) ((text.drop j).take k))
                          have hsw := write_steps d name (P.length : Nat) ((text.drop j).take k)
                          obtain ⟨r5, hr5⟩ : ∃ r, (writeD d name (P.length : Nat) ((text.drop j).take k)).1 = r := ⟨_, rfl⟩
                          rw [hr5] at hwr HNW
                          have HWR := Lib.hid hwr
                          generalize (writeD d name (P.length : Nat) ((text.drop j).take k)).2 = d5 at HWR HNW hsw
                          generalize (text.drop j).take k = piece at HNW
                          have hgt : (((nt - j : Nat)) : Int) > 0 := by omega
                          have hmin : True := trivial
                          have hadz : ∃ ad, A = some ad := by
                            obtain ⟨ad, e, -⟩ := hclw (by rw [bv_length, List.length_drop, HNT.out]; omega)
                            exact ⟨ad, e⟩
                          obtain ⟨ad, rfl⟩ := hadz
                          obtain ⟨nl, hnl⟩ : ∃ nl, nt - j = nl := ⟨_, rfl⟩
                          rw [hnl] at hgt hk2 hk hjc ⊢
                          have hkc : k ≤ c := by omega
                          have hmi : min ((nl : Nat) : Int) 256 = (k : Int) := by omega
                          clear hclw hclk hlk hwr hr5 hk hmin
                          by_cases hz : r5 = 0
                          · subst hz
                            have HNR := Lib.hid (HNW.out rfl)
                            clear HNW
                            have HDR := Lib.hid (show ∀ V : World, (∀ i, i < W.heap.size → V.heap[i]? = W.heap[i]?) → Cells V (if c = k then some ad else some (ad.add k)) (bv (text.drop (j + k))) from fun V hV => by
                              have h1 := HCL.out V hV
                              by_cases hck : c = k
                              · rw [if_pos hck]
                                intro hn
                                rw [bv_length, List.length_drop, HNT.out] at hn
                                omega
                              · rw [if_neg hck]
                                have h2 := h1.dropA k
                                have e : (bv (text.drop j)).drop k = bv (text.drop (j + k)) := by simp [bv, List.map_drop, List.drop_drop]
                                rw [e] at h2; exact h2)
                            by_cases hck : c = k
                            · obtain rfl : k = c := hck.symm
                              rw [if_pos rfl] at HDR
                              go_wp2_with fail
                              try simp only [hmi, Int.toNat_natCast]
                              refine HWR.out.mono ?_
                              rintro e w5 ⟨rfl, hg⟩
                              have HG5 := Lib.hid hg
                              clear hg HWR
                              go_wp2_with fail
                              go_roundw
                              case rel => exact ⟨j + k, _, _, P ++ [padP piece], d5, by omega, by rw [show nt - (j + k) = 0 by omega], by omega, HDR.out, by rw [List.length_append]; go_num, by rw [List.length_append]; simp; omega, HNR.out, by rw [List.length_append]; simp; omega, HG5.out⟩
                              case measure => simp [lenV]; omega
                            · rw [if_neg hck] at HDR
                              go_wp2_with fail
                              try simp only [hmi, Int.toNat_natCast]
                              refine HWR.out.mono ?_
                              rintro e w5 ⟨rfl, hg⟩
                              have HG5 := Lib.hid hg
                              clear hg HWR
                              go_wp2_with fail
                              go_roundw
                              case rel => exact ⟨j + k, _, _, P ++ [padP piece], d5, by omega, by rw [show nt - (j + k) = nl - k by omega], by omega, HDR.out, by rw [List.length_append]; go_num, by rw [List.length_append]; simp; omega, HNR.out, by rw [List.length_append]; simp; omega, HG5.out⟩
                              case measure => simp [lenV]; omega
                          · go_wp2_with fail
                            try simp only [hmi, Int.toNat_natCast]
                            refine HWR.out.mono ?_
                            rintro e w5 ⟨rfl, hg⟩
                            have HG := Lib.hid hg
                            clear hg HWR
                            go_wp2_with fail
                            refine (works_any _).mono ?_
                            rintro e wz ⟨rfl, hbz⟩
                            have HBZ := Lib.hid hbz
                            clear hbz
                            go_wp2_with fail
                            go_ret
                            exact ⟨rfl, (fr_early HBW.out HG.out.fr HLO.out).trans (HBZ.out.mono (fr_early HBW.out HG.out.fr HLO.out).size)⟩
                        · have hgt : ¬ (((nt - j : Nat)) : Int) > 0 := by omega
                          have hgt2 : ¬ (0 < nt - j) := by omega
                          obtain ⟨w5, rfl⟩ : ∃ x, x = wr := ⟨_, rfl⟩
                          obtain ⟨Fd, Fm, hdu5, hlo5, hlt5⟩ := HG.out.again HLO.out HBW.out.size
                          have HBW := Lib.hid (fr_early HBW.out HG.out.fr HLO.out)
                          have HLO := Lib.hid hlo5
                          have HLT5 := Lib.hid hlt5
                          have HDU5 := Lib.hid hdu5
                          have HG := Lib.hid (Gone.here hdu5)
                          have HNRD := Lib.hid (fun (i : Nat) (hi : i < P.length) => near_read HNR.out hi)
                          clear hdu5 hlo5 hlt5 HCL
                          go_wp2_with fail
                          go_loopw [18, 19] (fun u i wr => ∃ j : Nat, j ≤ P.length ∧ i = .int .i64 j ∧ wr.ownsRow w5.heap.size 5 1 u (j * 256) (bv (flatP (P.take j))) ∧ Below w5.heap.size w5 wr) (fun _ i _ => P.length - (intOf i).toNat)
                          case atStart => exact ⟨0, Nat.zero_le _, rfl, World.ownsRow_nil _ _ _ _, Below.refl _ _⟩
                          case round =>
                            obtain ⟨j, hj, rfl, hown, hbr⟩ := hrel
                            obtain ⟨Au, cu, hu, -, -⟩ := own_shape hown
                            subst hu
                            have HOW := Lib.hid hown
                            have HBR := Lib.hid hbr
                            clear hown hbr
                            by_cases hlt : j < P.length
                            · have hji : ((j : Nat) : Int) < P.length := by omega
                              have hrd := (HG.out.below HBR.out).read name (j : Int)
                              rw [HNRD.out j hlt] at hrd
                              have HRD := Lib.hid hrd
                              have HSN := Lib.hid (flatP_snoc P hlt)
                              have HPB := Lib.hid (P[j]).len
                              clear hrd
                              go_wp2_with fail
                              refine HRD.out.mono ?_
                              rintro e w7 ⟨Ar, nr, cr, rfl, hrl, hrc, hr256, hb7, -⟩
                              have hnr : nr = 256 := by rw [← hrl]; exact HPB.out
                              subst hnr
                              have HRC := Lib.hid hrc
                              have HB7 := Lib.hid hb7
                              have HBR7 := Lib.hid (HBR.out.trans (hb7.mono HBR.out.size))
                              clear hrl hrc hb7 hr256
                              go_wp2_with (at_builtin; go_must (refine wpList_appk slU8 rfl _ _ rfl w5.heap.size _ (j * 256) (bv (flatP (P.take j))) rfl (own_below HOW.out HB7.out) Ar 256 cr (bv P[j].b) rfl (by rw [bv_length, HPB.out]) HRC.out (bv_one _) (by omega) (by omega) HBR7.out.size ?_); intro v8 w8 hown8 hg8 hb8 hat8)
                              have HO8 := Lib.hid hown8
                              have HB8 := Lib.hid (HBR7.out.trans hb8)
                              clear hown8 hg8 hb8 hat8
                              go_roundw
                              case rel =>
                                refine ⟨j + 1, hlt, by go_num, ?_, HB8.out⟩
                                have h9 := HO8.out
                                rw [← bv_append, ← HSN.out, show j * 256 + 256 = (j + 1) * 256 by omega] at h9
                                exact h9
                              case measure => simp [intOf]; omega
                            · have hji : ¬ ((j : Nat) : Int) < P.length := by omega
                              obtain rfl : j = P.length := by omega
                              have how := HOW.out
                              rw [List.take_length] at how
                              have HOW := Lib.hid how
                              clear how
                              obtain ⟨w6, rfl⟩ : ∃ x, x = wr := ⟨_, rfl⟩
                              have HBW := Lib.hid (HBW.out.trans (HBR.out.mono HBW.out.size))
                              have HG := Lib.hid (Gone.here (HDU5.out.below HBR.out))
                              have HNW := Lib.hid (flatP_len P)
                              have HWANT := HOW
                              clear HOW HBR HDU5 HNRD
                              have hsy := HG.out.sync (by omega) name
                              have hns := near_sync HNR.out (by omega)
                              rw [hns.1] at hsy
                              have HSY := Lib.hid hsy
                              have hss := sync_steps d name
                              have HSF := Lib.hid hns.2.1
                              generalize (syncD d name).2 = d6 at HSY hss HSF
                              clear hsy hns
                              go_wp2_with fail
                              refine HSY.out.mono ?_
                              rintro e w7 ⟨rfl, hg⟩
                              have HG := Lib.hid hg
                              clear hg HSY
                              go_wp2_with fail
                              refine (HG.out.fail (n := 1073741824) (k := keep) (by decide) HKP.out).mono ?_
                              rintro e w8 ⟨rfl, hg⟩
                              have HG := Lib.hid hg
                              clear hg
                              have hs7 : (failD d6 1073741824 keep).steps = d6.steps := fail_steps _ _ _
                              have HSF := Lib.hid (safe_fail HSF.out 1073741824 keep)
                              generalize failD d6 1073741824 keep = d7 at HG hs7 HSF
                              go_wp2_with fail
                              go_loopw [22] (fun i wr => ∃ j : Nat, j ≤ lb.length ∧ i = .int .i64 j ∧ Gone w6 p q Fd Fm (playsD d7 (lb.take j)) (playsR m1 (lb.take j)) wr) (fun i _ => lb.length - (intOf i).toNat)
                              case atStart => exact ⟨0, Nat.zero_le _, rfl, HG.out⟩
                              case round =>
                                obtain ⟨j, hj, rfl, hg⟩ := hrel
                                have HG := Lib.hid hg
                                clear hg
                                by_cases hlt : j < lb.length
                                · have hkw := (fr_early HBW.out HG.out.fr HLO.out).block
                                  obtain ⟨ad, had, q0, q1, q2, q3, q4, q5, q6⟩ := ops_look hkw HB.out hlt
                                  subst had
                                  have hji : ((j : Nat) : Int) < lb.length := by omega
                                  have hz0 : (newD 300).steps = 0 := rfl
                                  have hz1 : (newR 300).count = 0 := rfl
                                  have hst1 := playsD_steps (lb.take j) d7
                                  have hst2 := playsR_count (lb.take j) m1
                                  rw [List.length_take] at hst1 hst2
                                  have HPL := Lib.hid (HG.out.plays (x := lb[j]) (by omega) (by omega) (HOB.out _ (List.getElem_mem hlt)))
                                  have HS1 := Lib.hid (playsD_snoc d7 lb hlt)
                                  have HS2 := Lib.hid (playsR_snoc m1 lb hlt)
                                  obtain ⟨kd, nm, ds, pg, lg, fl, kp⟩ := lb[j]
                                  clear hkw hst1 hst2 hz0 hz1
                                  go_wp2_with fail
                                  refine HPL.out.mono ?_
                                  rintro e w' ⟨rfl, hg2⟩
                                  have HG2 := Lib.hid hg2
                                  clear hg2
                                  go_wp2_with fail
                                  go_roundw
                                  case rel => exact ⟨j + 1, hlt, by go_num, by rw [HS1.out, HS2.out]; exact HG2.out⟩
                                  case measure => simp [intOf]; omega
                                · have hji : ¬ ((j : Nat) : Int) < lb.length := by omega
                                  have hje : lb.take j = lb := List.take_of_length_le (by omega)
                                  have hg3 := HG.out
                                  rw [hje] at hg3
                                  have HG := Lib.hid hg3
                                  clear hg3 hje
                                  have hst8 := playsD_steps lb d7
                                  have HSF := Lib.hid (safe_plays HSF.out HNB.out)
                                  generalize playsD d7 lb = d8 at HG hst8 HSF
                                  generalize playsR m1 lb = m2 at HG
                                  obtain ⟨w9, rfl⟩ : ∃ x, x = wr := ⟨_, rfl⟩
                                  go_wp2_with fail
                                  refine HG.out.off.mono ?_
                                  rintro e wo ⟨rfl, hwo⟩
                                  subst hwo
                                  cases hof : d8.off
                                  · have hcr := safe_crash HSF.out hof keep
                                    have hs9 : (failD d8 0 keep).steps = d8.steps := fail_steps _ _ _
                                    go_wp2_with fail
                                    refine (HG.out.fail (n := 0) (k := keep) (by decide) HKP.out).mono ?_
                                    rintro e wa ⟨rfl, hg⟩
                                    have HG := Lib.hid hg
                                    clear hg
                                    have hsy := HG.out.sync (by omega) name
                                    have hss := sync_steps (failD d8 0 keep) name
                                    rw [hcr.1] at hsy
                                    have HSY := Lib.hid hsy
                                    have HSF := Lib.hid hcr.2
                                    generalize (syncD (failD d8 0 keep) name).2 = d9 at HSY HSF hss
                                    clear hsy hcr
                                    go_wp2_with fail
                                    refine HSY.out.mono ?_
                                    rintro e wb ⟨rfl, hg⟩
                                    have HG := Lib.hid hg
                                    clear hg HSY
                                    have hof9 := on_off d9
                                    have hsf9 := safe_on HSF.out
                                    go_wp2_with fail
                                    refine (HG.out.on (by omega)).mono ?_
                                    rintro e wn ⟨rfl, hg9⟩
                                    have HG := Lib.hid hg9
                                    have HTL := Lib.hid (safe_tell hsf9 hof9)
                                    clear hg9 hof9 hsf9
                                    generalize onD d9 = dz at HG HTL
                                    have hln := HG.out.len name
                                    rw [HTL.out.1] at hln
                                    have HLN := Lib.hid hln
                                    have HTR := Lib.hid HTL.out.2
                                    clear hln
                                    go_wp2_with fail
                                    refine HLN.out.mono ?_
                                    rintro e wl ⟨rfl, hwl⟩
                                    subst hwl
                                    go_wp2_with fail
                                    go_loopw [23, 26] (fun u i wr => ∃ j : Nat, j ≤ P.length ∧ i = .int .i64 j ∧ wr.ownsRow wn.heap.size 5 1 u (j * 256) (bv (flatP (P.take j))) ∧ Below wn.heap.size wn wr) (fun _ i _ => P.length - (intOf i).toNat)
                                    case atStart => exact ⟨0, Nat.zero_le _, rfl, World.ownsRow_nil _ _ _ _, Below.refl _ _⟩
                                    case round =>
                                      obtain ⟨j, hj, rfl, hown, hbr⟩ := hrel
                                      obtain ⟨Au, cu, hu, -, -⟩ := own_shape hown
                                      subst hu
                                      have HOW := Lib.hid hown
                                      have HBR := Lib.hid hbr
                                      clear hown hbr
                                      by_cases hlt : j < P.length
                                      · have hji : ((j : Nat) : Int) < P.length := by omega
                                        have hrd := (HG.out.below HBR.out).read name (j : Int)
                                        rw [HTR.out j hlt] at hrd
                                        have HRD := Lib.hid hrd
                                        have HSN := Lib.hid (flatP_snoc P hlt)
                                        have HPB := Lib.hid (P[j]).len
                                        clear hrd
                                        go_wp2_with fail
                                        refine HRD.out.mono ?_
                                        rintro e w7 ⟨Ar, nr, cr, rfl, hrl, hrc, hr256, hb7, -⟩
                                        have hnr : nr = 256 := by rw [← hrl]; exact HPB.out
                                        subst hnr
                                        have HRC := Lib.hid hrc
                                        have HB7 := Lib.hid hb7
                                        have HBR7 := Lib.hid (HBR.out.trans (hb7.mono HBR.out.size))
                                        clear hrl hrc hb7 hr256
                                        go_wp2_with (at_builtin; go_must (refine wpList_appk slU8 rfl _ _ rfl wn.heap.size _ (j * 256) (bv (flatP (P.take j))) rfl (own_below HOW.out HB7.out) Ar 256 cr (bv P[j].b) rfl (by rw [bv_length, HPB.out]) HRC.out (bv_one _) (by omega) (by omega) HBR7.out.size ?_); intro v8 w8 hown8 hg8 hb8 hat8)
                                        have HO8 := Lib.hid hown8
                                        have HB8 := Lib.hid (HBR7.out.trans hb8)
                                        clear hown8 hg8 hb8 hat8
                                        go_roundw
                                        case rel =>
                                          refine ⟨j + 1, hlt, by go_num, ?_, HB8.out⟩
                                          have h9 := HO8.out
                                          rw [← bv_append, ← HSN.out, show j * 256 + 256 = (j + 1) * 256 by omega] at h9
                                          exact h9
                                        case measure => simp [intOf]; omega
                                      · have hji : ¬ ((j : Nat) : Int) < P.length := by omega
                                        obtain rfl : j = P.length := by omega
                                        have how := HOW.out
                                        rw [List.take_length] at how
                                        have HOW := Lib.hid how
                                        clear how
                                        have hfr9 := HG.out.fr
                                        have hwant := own_below (own_fr HWANT.out hfr9 fun g hg hi => by
                                          have h1 := (World.ownsRow.lt HWANT.out g hg).1
                                          have h2 := HLT5.out g hi
                                          omega) HBR.out
                                        obtain ⟨Aw2, cw2, hvw, -, hcw⟩ := own_shape hwant
                                        injection hvw with hvw1 _ hvw2
                                        subst hvw1
                                        subst hvw2
                                        obtain ⟨Ah2, ch2, hvh, -, hch⟩ := own_shape HOW.out
                                        injection hvh with hvh1 _ hvh2
                                        subst hvh1
                                        subst hvh2
                                        have hcv1 := fun c => conv_bytes hch (P.length * 256) c (flatP_len P)
                                        have hcv2 := fun c => conv_bytes hcw (P.length * 256) c (flatP_len P)
                                        obtain ⟨fs, hfs⟩ : ∃ fs : ByteArray, (⟨(flatP P).toArray⟩ : ByteArray) = fs := ⟨_, rfl⟩
                                        simp only [hfs] at hcv1 hcv2
                                        have HBZ0 := Lib.hid ((fr_early HBW.out hfr9 HLO.out).trans (HBR.out.mono (fr_early HBW.out hfr9 HLO.out).size))
                                        clear hfr9 hwant hch hcw hfs
                                        go_wp2_with fail
                                        refine (works_any _).mono ?_
                                        rintro e wz ⟨rfl, hbz⟩
                                        have HBZ := Lib.hid hbz
                                        clear hbz
                                        go_wp2_with fail
                                        go_ret
                                        exact ⟨rfl, HBZ0.out.trans (HBZ.out.mono HBZ0.out.size)⟩
                                  · have hof9 := on_off d8
                                    have hsf9 := safe_on HSF.out
                                    go_wp2_with fail
                                    refine (HG.out.on (by omega)).mono ?_
                                    rintro e wn ⟨rfl, hg9⟩
                                    have HG := Lib.hid hg9
                                    have HTL := Lib.hid (safe_tell hsf9 hof9)
                                    clear hg9 hof9 hsf9
                                    generalize onD d8 = dz at HG HTL
                                    have hln := HG.out.len name
                                    rw [HTL.out.1] at hln
                                    have HLN := Lib.hid hln
                                    have HTR := Lib.hid HTL.out.2
                                    clear hln
                                    go_wp2_with fail
                                    refine HLN.out.mono ?_
                                    rintro e wl ⟨rfl, hwl⟩
                                    subst hwl
                                    go_wp2_with fail
                                    go_loopw [23, 26] (fun u i wr => ∃ j : Nat, j ≤ P.length ∧ i = .int .i64 j ∧ wr.ownsRow wn.heap.size 5 1 u (j * 256) (bv (flatP (P.take j))) ∧ Below wn.heap.size wn wr) (fun _ i _ => P.length - (intOf i).toNat)
                                    case atStart => exact ⟨0, Nat.zero_le _, rfl, World.ownsRow_nil _ _ _ _, Below.refl _ _⟩
                                    case round =>
                                      obtain ⟨j, hj, rfl, hown, hbr⟩ := hrel
                                      obtain ⟨Au, cu, hu, -, -⟩ := own_shape hown
                                      subst hu
                                      have HOW := Lib.hid hown
                                      have HBR := Lib.hid hbr
                                      clear hown hbr
                                      by_cases hlt : j < P.length
                                      · have hji : ((j : Nat) : Int) < P.length := by omega
                                        have hrd := (HG.out.below HBR.out).read name (j : Int)
                                        rw [HTR.out j hlt] at hrd
                                        have HRD := Lib.hid hrd
                                        have HSN := Lib.hid (flatP_snoc P hlt)
                                        have HPB := Lib.hid (P[j]).len
                                        clear hrd
                                        go_wp2_with fail
                                        refine HRD.out.mono ?_
                                        rintro e w7 ⟨Ar, nr, cr, rfl, hrl, hrc, hr256, hb7, -⟩
                                        have hnr : nr = 256 := by rw [← hrl]; exact HPB.out
                                        subst hnr
                                        have HRC := Lib.hid hrc
                                        have HB7 := Lib.hid hb7
                                        have HBR7 := Lib.hid (HBR.out.trans (hb7.mono HBR.out.size))
                                        clear hrl hrc hb7 hr256
                                        go_wp2_with (at_builtin; go_must (refine wpList_appk slU8 rfl _ _ rfl wn.heap.size _ (j * 256) (bv (flatP (P.take j))) rfl (own_below HOW.out HB7.out) Ar 256 cr (bv P[j].b) rfl (by rw [bv_length, HPB.out]) HRC.out (bv_one _) (by omega) (by omega) HBR7.out.size ?_); intro v8 w8 hown8 hg8 hb8 hat8)
                                        have HO8 := Lib.hid hown8
                                        have HB8 := Lib.hid (HBR7.out.trans hb8)
                                        clear hown8 hg8 hb8 hat8
                                        go_roundw
                                        case rel =>
                                          refine ⟨j + 1, hlt, by go_num, ?_, HB8.out⟩
                                          have h9 := HO8.out
                                          rw [← bv_append, ← HSN.out, show j * 256 + 256 = (j + 1) * 256 by omega] at h9
                                          exact h9
                                        case measure => simp [intOf]; omega
                                      · have hji : ¬ ((j : Nat) : Int) < P.length := by omega
                                        obtain rfl : j = P.length := by omega
                                        have how := HOW.out
                                        rw [List.take_length] at how
                                        have HOW := Lib.hid how
                                        clear how
                                        have hfr9 := HG.out.fr
                                        have hwant := own_below (own_fr HWANT.out hfr9 fun g hg hi => by
                                          have h1 := (World.ownsRow.lt HWANT.out g hg).1
                                          have h2 := HLT5.out g hi
                                          omega) HBR.out
                                        obtain ⟨Aw2, cw2, hvw, -, hcw⟩ := own_shape hwant
                                        injection hvw with hvw1 _ hvw2
                                        subst hvw1
                                        subst hvw2
                                        obtain ⟨Ah2, ch2, hvh, -, hch⟩ := own_shape HOW.out
                                        injection hvh with hvh1 _ hvh2
                                        subst hvh1
                                        subst hvh2
                                        have hcv1 := fun c => conv_bytes hch (P.length * 256) c (flatP_len P)
                                        have hcv2 := fun c => conv_bytes hcw (P.length * 256) c (flatP_len P)
                                        obtain ⟨fs, hfs⟩ : ∃ fs : ByteArray, (⟨(flatP P).toArray⟩ : ByteArray) = fs := ⟨_, rfl⟩
                                        simp only [hfs] at hcv1 hcv2
                                        have HBZ0 := Lib.hid ((fr_early HBW.out hfr9 HLO.out).trans (HBR.out.mono (fr_early HBW.out hfr9 HLO.out).size))
                                        clear hfr9 hwant hch hcw hfs
                                        go_wp2_with fail
                                        refine (works_any _).mono ?_
                                        rintro e wz ⟨rfl, hbz⟩
                                        have HBZ := Lib.hid hbz
                                        clear hbz
                                        go_wp2_with fail
                                        go_ret
                                        exact ⟨rfl, HBZ0.out.trans (HBZ.out.mono HBZ0.out.size)⟩
                    · go_wp2_with fail
                      refine HCR.out.mono ?_
                      rintro e w4' ⟨rfl, hg⟩
                      have HG := Lib.hid hg
                      clear hg HCR
                      go_wp2_with fail
                      refine (works_any _).mono ?_
                      rintro e wz ⟨rfl, hbz⟩
                      have HBZ := Lib.hid hbz
                      clear hbz
                      go_wp2_with fail
                      go_ret
                      exact ⟨rfl, (fr_early HBW.out HG.out.fr HLO.out).trans (HBZ.out.mono (fr_early HBW.out HG.out.fr HLO.out).size)⟩
end Go.Proofs.Ytikbphafpmdpeaa
