/- large: what is not large is of at most 200 calls of at most 40000 legs each. -/
import Derived.Test.YtmlcojhanimnpaaOps
import Derived.BigQuiet
namespace Go.Proofs.Ytmlcojhanimnpaa
open Go.RowKit

theorem OpsIn.look {w : World} {A : Option Addr} {l : List OpR} (h : OpsIn w A l) {i : Nat} (hi : i < l.length) :
    ∃ ad B c, A = some ad ∧ w.cell? (ad.add (i * 8)) = some (.int .u8 l[i].kind) ∧ w.cell? ⟨(ad.add (i * 8)).block, (ad.add (i * 8)).off + 1, none⟩ = some (.string l[i].name) ∧ w.cell? ⟨(ad.add (i * 8)).block, (ad.add (i * 8)).off + 2, none⟩ = some (.string l[i].a) ∧
      w.cell? ⟨(ad.add (i * 8)).block, (ad.add (i * 8)).off + 3, none⟩ = some (.string l[i].b) ∧ w.cell? ⟨(ad.add (i * 8)).block, (ad.add (i * 8)).off + 4, none⟩ = some (.int .i64 l[i].n) ∧ w.cell? ⟨(ad.add (i * 8)).block, (ad.add (i * 8)).off + 5, none⟩ = some (.int .i64 l[i].p) ∧
      w.cell? ⟨(ad.add (i * 8)).block, (ad.add (i * 8)).off + 6, none⟩ = some (.int .i64 l[i].c) ∧ w.cell? ⟨(ad.add (i * 8)).block, (ad.add (i * 8)).off + 7, none⟩ = some (.slice B l[i].legs.length c) ∧ LegsIn w B l[i].legs := by
  obtain ⟨ad, he, B, c, h0, h1, h2, h3, h4, h5, h6, h7, h8⟩ := h i hi
  exact ⟨ad, B, c, he, h0, by rw [next_add _ _ _ (by decide)]; exact h1, by rw [next_add _ _ _ (by decide)]; exact h2, by rw [next_add _ _ _ (by decide)]; exact h3, by rw [next_add _ _ _ (by decide)]; exact h4, by rw [next_add _ _ _ (by decide)]; exact h5, by rw [next_add _ _ _ (by decide)]; exact h6, by rw [next_add _ _ _ (by decide)]; exact h7, h8⟩
/-- What large tells. -/
def LargeP (l : List OpR) (e : Ending) : Prop := ∃ b : Bool, e = .returned (.bool b) ∧ (b = false → l.length ≤ 200 ∧ ∀ x ∈ l, x.legs.length ≤ 40000)
set_option maxRecDepth 100000 in
set_option maxHeartbeats 4000000 in
theorem large_any (l : List OpR) (A : Option Addr) (c : Nat) (w : World) (hl : l.length ≤ 140737488355328) (hA : OpsIn w A l) (hwf : ∀ x ∈ l, OpWf x) :
    Calls Try.prog 8 #[.slice A l.length c] w fun e w' => LargeP l e ∧ Below w.heap.size w w' := by
  have HA := Lib.hid hA
  have HWF := Lib.hid hwf
  clear hA hwf
  go_enter Try.func8, Try.ntmps8
  go_wp2_with fail
  go_loopw [3, 4] (fun n i wr => ∃ (N : Int) (k : Nat), k ≤ l.length ∧ n = .int .i64 N ∧ i = .int .i64 k ∧ 0 ≤ N ∧ N ≤ 1000000000000000 ∧ (N ≤ 40000 → ∀ j (hj : j < l.length), j < k → l[j].legs.length ≤ N) ∧ Below w.heap.size w wr) (fun _ i _ => l.length - (intOf i).toNat)
  case atStart => exact ⟨0, 0, Nat.zero_le _, rfl, rfl, by omega, by omega, fun _ j _ h => by omega, Below.refl _ _⟩
  case round =>
    obtain ⟨N, k, hk, rfl, rfl, hN0, hN1, hall, hb⟩ := hrel
    have HALL := Lib.hid hall
    have HB := Lib.hid hb
    clear hall
    by_cases hkl : k < l.length
    · by_cases hN : N ≤ 40000
      · obtain ⟨ad, B, c', rfl, h0, h1, h2, h3, h4, h5, h6, h7, h8⟩ := (HA.out.below hb).look hkl
        have hx := HWF.out _ (List.getElem_mem hkl)
        have z1 := hx.name
        have z2 := hx.a
        have z3 := hx.b
        have z4 := hx.len
        have hlw := hx.legs
        obtain ⟨X, hX⟩ : ∃ X, l[k] = X := ⟨_, rfl⟩
        rw [hX] at h1 h2 h3 h7 h8 z1 z2 z3 z4 hlw
        have HX := Lib.hid hX
        have HLW := Lib.hid hlw
        have H8 := Lib.hid h8
        have HN := Lib.hid hN
        unfold reachBytes at z1 z2 z3 z4
        clear h0 h4 h5 h6 hx hX hlw h8 hb
        go_wp2_with fail
        go_quiet (fail)
        go_wp2_with fail
        obtain ⟨wo, hwo⟩ : ∃ wo : World, wo = wr := ⟨_, rfl⟩
        subst hwo
        go_loopw [3, 5] (fun n j wr => ∃ (M : Int) (t : Nat), t ≤ X.legs.length ∧ n = .int .i64 M ∧ j = .int .i64 t ∧ N ≤ M ∧ 0 ≤ M ∧ M ≤ 1000000000000000 ∧ (t : Int) ≤ M ∧ Below wo.heap.size wo wr) (fun _ j _ => X.legs.length - (intOf j).toNat)
        case atStart => exact ⟨_, 0, Nat.zero_le _, rfl, rfl, by omega, by omega, by omega, by omega, below_drewN (Below.refl _ _) _⟩
        case round =>
          obtain ⟨M, t, ht, rfl, rfl, hM0, hM1, hM2, hM3, hb⟩ := hrel
          have HBB := Lib.hid hb
          have h7' := cell_below hb h7
          by_cases htl : t < X.legs.length
          · by_cases hM : M ≤ 40000
            · obtain ⟨la, rfl, l0, l1, -⟩ := LegsIn.look (Cells.below H8.out hb) htl
              obtain ⟨y1, y2, -, -⟩ := HLW.out _ (List.getElem_mem htl)
              obtain ⟨Y, hY⟩ : ∃ Y, X.legs[t] = Y := ⟨_, rfl⟩
              rw [hY] at l0 l1 y1 y2
              unfold reachBytes at y1 y2
              clear hY hb
              go_wp2_with fail
              go_quiet (fail)
              go_wp2_with fail
              go_roundw
              case rel => exact ⟨_, t + 1, by omega, rfl, by go_num, by omega, by omega, by omega, by omega, below_drewN HBB.out _⟩
              case measure => simp [intOf]; omega
            · clear hb
              go_wp2_with fail
              go_roundw
              case rel => exact ⟨M, k + 1, by omega, rfl, by go_num, by omega, by omega, fun h => by omega, HB.out.trans (HBB.out.mono HB.out.size)⟩
              case measure => simp [intOf]; omega
          · clear hb
            go_wp2_with fail
            go_roundw
            case rel =>
              refine ⟨M, k + 1, by omega, rfl, by go_num, by omega, by omega, fun _ j hj hjk => ?_, HB.out.trans (HBB.out.mono HB.out.size)⟩
              rcases Nat.lt_or_ge j k with h | h
              · have := HALL.out HN.out j hj h; omega
              · obtain rfl : j = k := by omega
                rw [HX.out]; omega
            case measure => simp [intOf]; omega
      · clear hb
        go_wp2_with fail
        go_ret
        exact ⟨⟨true, ret_bool (by first | (simp; omega) | simp), fun h => by cases h⟩, HB.out⟩
    · clear hb
      by_cases hN : N ≤ 40000
      · by_cases h2 : l.length ≤ 200
        · go_wp2_with fail
          go_ret
          refine ⟨⟨false, ret_bool (by first | (simp; omega) | simp), fun _ => ⟨h2, fun x hx => ?_⟩⟩, HB.out⟩
          obtain ⟨j, hj, rfl⟩ := List.getElem_of_mem hx
          have := HALL.out hN j hj (by omega); omega
        · go_wp2_with fail
          go_ret
          exact ⟨⟨true, ret_bool (by first | (simp; omega) | simp), fun h => by cases h⟩, HB.out⟩
      · go_wp2_with fail
        go_ret
        exact ⟨⟨true, ret_bool (by first | (simp; omega) | simp), fun h => by cases h⟩, HB.out⟩
end Go.Proofs.Ytmlcojhanimnpaa
