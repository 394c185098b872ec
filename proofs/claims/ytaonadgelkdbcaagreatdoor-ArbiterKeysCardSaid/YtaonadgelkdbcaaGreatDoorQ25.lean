/- ArbiterKeys: the statement's walk. · Arguments opened: weights, fields, rows of terms. · A box of secrets that came in. · The frame of the six laws' rows: what every law whose calls only lay new blocks shares. -/
import Derived.Test.YtaonadgelkdbcaaGreatDoorQ24
import Derived.Test.YtaonadgelkdbcaaGreatDoorQ23
import Derived.Test.YtaonadgelkdbcaaGreatDoorQ18
import Derived.Test.YtaonadgelkdbcaaGreatDoorQ12
import Derived.Deep.Slices
import Derived.Deep.Fields
import Derived.ChangeSame
import Derived.ChangeArms
import Derived.OpenShut
import Derived.SliceStrings
import Derived.Lib.SmallJoins
import Derived.SizedLaws
import Derived.Test.YtaonadgelkdbcaaGreatDoorBase
import Derived.Test.YtaonadgelkdbcaaGreatDoorCards
import Derived.Test.YtaonadgelkdbcaaGreatDoorTie
import Derived.ProofKit
import Derived.Carry
import Derived.LaidMore
import Derived.Lay
import Derived.SevenTiedAt
import Derived.Stop.Joined
import Derived.Below
import Derived.ChangeMaps5
namespace Go.Proofs.YtaonadgelkdbcaaGreatDoor
open Go.RowKit

theorem addE_len (r : Int × List (List UInt8)) (x : Int × List UInt8) : (addE r x).2.length ≤ r.2.length + 1 := by
  unfold addE
  split
  · split
    · simp
    · simp
  · omega
theorem keys1_len (s : SecR) (tag mine : Int) (r : Int × List (List UInt8)) : (keys1 s tag mine r).2.length ≤ r.2.length + 2 := by
  unfold keys1
  split
  · split
    · have := addE_len r (twoE 75 s.later.data.toList (pointE s.seed.data.toList mine).2)
      have := addE_len (addE r (twoE 75 s.later.data.toList (pointE s.seed.data.toList mine).2)) (twoE 75 s.htlc.data.toList (pointE s.seed.data.toList mine).2)
      omega
    · simp
  · omega
theorem keys2_len (s : SecR) (told : List UInt8) (r : Int × List (List UInt8)) : (keys2 s told r).2.length ≤ r.2.length + 2 := by
  unfold keys2
  have := addE_len r (twoE 86 s.rev.data.toList told)
  have := addE_len (addE r (twoE 86 s.rev.data.toList told)) (twoE 75 s.htlc.data.toList (pubE told).2)
  split
  · omega
  · split
    · split
      · omega
      · simp
    · omega
theorem keys3_len (s : SecR) (point : List UInt8) (r : Int × List (List UInt8)) : (keys3 s point r).2.length ≤ r.2.length + 1 := by
  unfold keys3
  split
  · omega
  · exact addE_len _ _
theorem keysE_len (s : SecR) (tag mine : Int) (told point : List UInt8) : (keysE s tag mine told point).2.length ≤ 6 := by
  unfold keysE
  split
  · have h1 := keys1_len s tag mine (0, [s.pay.data.toList])
    have h2 := keys2_len s told (keys1 s tag mine (0, [s.pay.data.toList]))
    have h3 := keys3_len s point (keys2 s told (keys1 s tag mine (0, [s.pay.data.toList])))
    have e : ((0, [s.pay.data.toList]) : Int × List (List UInt8)).2.length = 1 := rfl
    omega
  · simp
set_option maxRecDepth 100000 in
set_option maxHeartbeats 8000000 in
theorem keys_law (s : SecR) (tag mine : Int) (told point : ByteArray) (w : World) (z0 : s.fund.size ≤ 140737488355328) (z1 : s.rev.size ≤ 140737488355328) (z2 : s.pay.size ≤ 140737488355328) (z3 : s.later.size ≤ 140737488355328) (z4 : s.htlc.size ≤ 140737488355328) (z5 : s.seed.size ≤ 140737488355328) (z6 : told.size ≤ 140737488355328) (z7 : point.size ≤ 140737488355328) (hv : VarsOk w) :
    Calls Tryz.prog 4 #[secV s, .int .i64 tag, .int .i64 mine, .string told, .string point] w fun e w' => e = .returned (.bool true) ∧ Below w.heap.size w w' := by
  unfold secV
  have hb := allocs_below [(.cells #[.string s.fund, .string s.rev, .string s.pay, .string s.later, .string s.htlc, .string s.seed] 54), (.cells #[.string s.fund, .string s.rev, .string s.pay, .string s.later, .string s.htlc, .string s.seed, .string told, .string point] 29), (.cells #[.slice (some ⟨w.heap.size + 1, 0, none⟩) 8 8] 26)] w
  have s1 : (allocs w [(.cells #[.string s.fund, .string s.rev, .string s.pay, .string s.later, .string s.htlc, .string s.seed] 54), (.cells #[.string s.fund, .string s.rev, .string s.pay, .string s.later, .string s.htlc, .string s.seed, .string told, .string point] 29), (.cells #[.slice (some ⟨w.heap.size + 1, 0, none⟩) 8 8] 26)]).heap[w.heap.size + 1]? = some (.cells #[.string s.fund, .string s.rev, .string s.pay, .string s.later, .string s.htlc, .string s.seed, .string told, .string point] 29 (0, 0)) := allocs_at [(.cells #[.string s.fund, .string s.rev, .string s.pay, .string s.later, .string s.htlc, .string s.seed] 54), (.cells #[.string s.fund, .string s.rev, .string s.pay, .string s.later, .string s.htlc, .string s.seed, .string told, .string point] 29), (.cells #[.slice (some ⟨w.heap.size + 1, 0, none⟩) 8 8] 26)] w 1 _ rfl
  have s2 : (allocs w [(.cells #[.string s.fund, .string s.rev, .string s.pay, .string s.later, .string s.htlc, .string s.seed] 54), (.cells #[.string s.fund, .string s.rev, .string s.pay, .string s.later, .string s.htlc, .string s.seed, .string told, .string point] 29), (.cells #[.slice (some ⟨w.heap.size + 1, 0, none⟩) 8 8] 26)]).heap[w.heap.size + 2]? = some (.cells #[.slice (some ⟨w.heap.size + 1, 0, none⟩) 8 8] 26 (0, 0)) := allocs_at [(.cells #[.string s.fund, .string s.rev, .string s.pay, .string s.later, .string s.htlc, .string s.seed] 54), (.cells #[.string s.fund, .string s.rev, .string s.pay, .string s.later, .string s.htlc, .string s.seed, .string told, .string point] 29), (.cells #[.slice (some ⟨w.heap.size + 1, 0, none⟩) 8 8] 26)] w 2 _ rfl
  have hcl : Cells (allocs w [(.cells #[.string s.fund, .string s.rev, .string s.pay, .string s.later, .string s.htlc, .string s.seed] 54), (.cells #[.string s.fund, .string s.rev, .string s.pay, .string s.later, .string s.htlc, .string s.seed, .string told, .string point] 29), (.cells #[.slice (some ⟨w.heap.size + 1, 0, none⟩) 8 8] 26)]) (some ⟨w.heap.size + 1, 0, none⟩) (strs [s.fund, s.rev, s.pay, s.later, s.htlc, s.seed, told, point]) := fun _ => by
    refine ⟨_, rfl, fun j u hj => ?_⟩
    have h : (allocs w [(.cells #[.string s.fund, .string s.rev, .string s.pay, .string s.later, .string s.htlc, .string s.seed] 54), (.cells #[.string s.fund, .string s.rev, .string s.pay, .string s.later, .string s.htlc, .string s.seed, .string told, .string point] 29), (.cells #[.slice (some ⟨w.heap.size + 1, 0, none⟩) 8 8] 26)]).cell? ⟨w.heap.size + 1, j, none⟩ = some u := by
      unfold World.cell?
      rw [s1]
      simpa [strs] using hj
    unfold Addr.add
    split
    · rename_i hz; subst hz; exact h
    · simpa using h
  have hLG := large_any [s.fund, s.rev, s.pay, s.later, s.htlc, s.seed, told, point] (some ⟨w.heap.size + 1, 0, none⟩) 8 (w.heap.size + 2) 1 (allocs w [(.cells #[.string s.fund, .string s.rev, .string s.pay, .string s.later, .string s.htlc, .string s.seed] 54), (.cells #[.string s.fund, .string s.rev, .string s.pay, .string s.later, .string s.htlc, .string s.seed, .string told, .string point] 29), (.cells #[.slice (some ⟨w.heap.size + 1, 0, none⟩) 8 8] 26)]) (by simp) (by
    intro x hx
    simp only [List.mem_cons, List.not_mem_nil, or_false] at hx
    rcases hx with rfl | rfl | rfl | rfl | rfl | rfl | rfl | rfl <;> assumption) hcl (cell_of s2 rfl)
  have HLG := Lib.hid hLG
  have HB := Lib.hid hb
  have s0 : (allocs w [(.cells #[.string s.fund, .string s.rev, .string s.pay, .string s.later, .string s.htlc, .string s.seed] 54), (.cells #[.string s.fund, .string s.rev, .string s.pay, .string s.later, .string s.htlc, .string s.seed, .string told, .string point] 29), (.cells #[.slice (some ⟨w.heap.size + 1, 0, none⟩) 8 8] 26)]).heap[w.heap.size]? = some (.cells #[.string s.fund, .string s.rev, .string s.pay, .string s.later, .string s.htlc, .string s.seed] 54 (0, 0)) := allocs_at [(.cells #[.string s.fund, .string s.rev, .string s.pay, .string s.later, .string s.htlc, .string s.seed] 54), (.cells #[.string s.fund, .string s.rev, .string s.pay, .string s.later, .string s.htlc, .string s.seed, .string told, .string point] 29), (.cells #[.slice (some ⟨w.heap.size + 1, 0, none⟩) 8 8] 26)] w 0 _ rfl
  have q0 := cell_of s0 (j := 0) rfl
  have q1 := cell_of s0 (j := 1) rfl
  have q2 := cell_of s0 (j := 2) rfl
  have q3 := cell_of s0 (j := 3) rfl
  have q4 := cell_of s0 (j := 4) rfl
  have q5 := cell_of s0 (j := 5) rfl
  cases hq : largeB [s.fund, s.rev, s.pay, s.later, s.htlc, s.seed, told, point] with
  | true =>
    rw [hq] at HLG
    clear hb s0 s1 s2 hLG hcl hv hq
    go_enter Tryz.func4, Tryz.ntmps4
    go_wp2_with fail
    refine HLG.out.mono ?_
    rintro e w1 ⟨rfl, rfl⟩
    go_wp2_with fail
    go_ret
    exact ⟨rfl, HB.out⟩
  | false =>
    rw [hq] at HLG
    obtain ⟨-, hsm⟩ := not_large hq
    have y1 := hsm s.rev (by simp)
    have y2 := hsm s.pay (by simp)
    have y3 := hsm s.later (by simp)
    have y4 := hsm s.htlc (by simp)
    have y5 := hsm s.seed (by simp)
    have y6 := hsm told (by simp)
    have y7 := hsm point (by simp)
    have hKA := fun W (hv : VarsOk W) => akeys_any s tag mine told point W (by omega) (by omega) (by omega) (by omega) (by omega) (by omega) (by omega) hv
    have hKB := fun W (hv : VarsOk W) => rkeys_any s tag mine told point W (by omega) (by omega) (by omega) (by omega) (by omega) (by omega) (by omega) hv
    have hrl := keysE_len s tag mine told.data.toList point.data.toList
    obtain ⟨R, hR⟩ : ∃ R, keysE s tag mine told.data.toList point.data.toList = R := ⟨_, rfl⟩
    simp only [hR] at hKA hKB
    rw [hR] at hrl
    unfold secV at hKA hKB
    have HKA := Lib.hid hKA
    have HKB := Lib.hid hKB
    have HRL := Lib.hid (show (R.2.map bs).length ≤ 1000000 by rw [List.length_map]; omega)
    have HS0 := Lib.hid s0
    have HV := Lib.hid (hv.below hb)
    clear hb s0 s1 s2 hLG hcl hv hq hsm y1 y2 y3 y4 y5 y6 y7 hKA hKB hrl hR z0 z1 z2 z3 z4 z5 z6 z7
    go_enter Tryz.func4, Tryz.ntmps4
    go_wp2_with fail
    refine HLG.out.mono ?_
    rintro e w1 ⟨rfl, rfl⟩
    go_wp2_with fail
    refine (HKA.out _ HV.out).mono ?_
    rintro e w2 ⟨A, c, rfl, hca, hb2⟩
    have HS2 := Lib.hid ((hb2.block _ (lt_of_block HS0.out)).trans HS0.out)
    have HB2 := Lib.hid (HB.out.trans (hb2.mono HB.out.size))
    have HV2 := Lib.hid (HV.out.below hb2)
    have HCA := Lib.hid hca
    clear hca hb2 q0 q1 q2 q3 q4 q5
    have r0 := cell_of HS2.out (j := 0) rfl
    have r1 := cell_of HS2.out (j := 1) rfl
    have r2 := cell_of HS2.out (j := 2) rfl
    have r3 := cell_of HS2.out (j := 3) rfl
    have r4 := cell_of HS2.out (j := 4) rfl
    have r5 := cell_of HS2.out (j := 5) rfl
    go_wp2_with fail
    refine (HKB.out _ HV2.out).mono ?_
    rintro e w3 ⟨B, d, rfl, hcb, hb3⟩
    have HB3 := Lib.hid (HB2.out.trans (hb3.mono HB2.out.size))
    have HV3 := Lib.hid (HV2.out.below hb3)
    have hst := sameTerms_eq (R.2.map bs) A B c d w3 HRL.out (Cells.below HCA.out hb3) hcb
    rw [List.length_map] at hst
    have HST := Lib.hid hst
    clear hcb hb3 hst r0 r1 r2 r3 r4 r5
    go_wp2_with fail
    refine HST.out.mono ?_
    rintro e w4 ⟨rfl, m, hw4⟩
    have HB4 := Lib.hid (show Below w.heap.size w w4 by rw [hw4]; exact below_drewN HB3.out m)
    have HV4 := Lib.hid (show VarsOk w4 by rw [hw4]; exact HV3.out.below (below_drewN (Below.refl _ _) m))
    clear hw4
    go_wp2_with fail
    refine (works_any _ HV4.out).mono ?_
    rintro e w5 ⟨rfl, hb5⟩
    have HB5 := Lib.hid (HB4.out.trans (hb5.mono HB4.out.size))
    clear hb5
    go_wp2_with fail
    go_ret
    exact ⟨rfl, HB5.out⟩
end Go.Proofs.YtaonadgelkdbcaaGreatDoor

namespace Go.Proofs.YtaonadgelkdbcaaGreatDoor
open Go.RowKit Go.ChangeShapes Go.WideShapes Go.Deep

section
variable {H : Type} {enc : TypeId × Value → H} {P : Program} {w : World} {base : Nat} {spare : Nat → Bool} {held : Bool}
theorem open_slice_fields {t e : TypeId} {fs : Array Field} {fuel : Nat} {cs : List Value} {x : DataW H × List MemPlace} (ht : P.underlying t = some (.slice e)) (he : P.underlying e = some (.struct fs))
    (hone : oneCellFields P fs = true) (hC : P.cellsOf e = fs.size) (h : DataW.trod enc P w base spare held fuel t cs = some x) :
    (cs = [.slice none 0 0] ∧ x = (.nil, [])) ∨
    ∃ (a : Addr) (len cap m : Nat) (D : Nat → DataW H) (Pl : Nat → List MemPlace), cs = [.slice (some a) len cap] ∧ base ≤ a.block ∧ len ≤ cap ∧ cap ≤ maxLen ∧ m = (if spare a.block then cap else len) ∧
      x = (.slice ((List.range len).map D) ((List.range (m - len)).map fun j => D (len + j)), MemPlace.row a (m * fs.size) ++ (List.range m).flatMap Pl) ∧
      ∀ i, i < m → ∃ (ys : List (DataW H × List MemPlace)) (n : Nat), D i = .agg (ys.map (·.1)) ∧ Pl i = ys.flatMap (·.2) ∧ ys.length = fs.size ∧
        ∀ (j : Nat) (f : Field), fs[j]? = some f → ∃ (v : Value) (y : DataW H × List MemPlace), w.cell? (a.add (i * fs.size + j)) = some v ∧ ys[j]? = some y ∧ DataW.trod enc P w base spare held n f.type [v] = some y := by
  rcases open_slice ht h with h0 | ⟨a, len, cap, m, n, D, Pl, hcs, hb, hl, hm, hmm, hx, hi⟩
  · exact .inl h0
  · refine .inr ⟨a, len, cap, m, D, Pl, hcs, hb, hl, hm, hmm, by rw [hC] at hx; exact hx, fun i him => ?_⟩
    obtain ⟨cs', hc, ht'⟩ := hi i him
    rw [hC] at hc
    obtain ⟨ys, n', hn', hy, hlen, hyl, hf⟩ := DataW.trod_struct he ht'
    obtain ⟨_, hcl, hat⟩ := World.cells?_some hc
    simp only [Prod.mk.injEq] at hy
    refine ⟨ys, n', hy.1, hy.2, hyl, fun j f hj => ?_⟩
    obtain ⟨ho, hk⟩ := hone_of hone j f hj
    have hjl : j < fs.size := (Array.getElem?_eq_some_iff.1 hj).1
    have hcell := hat j hjl
    have hv : cs'[j]? = some (cs'[j]'(by omega)) := List.getElem?_eq_getElem (by omega)
    have h1 := hf j f hj
    rw [ho, hk] at h1
    have hone' : (cs'.drop j).take 1 = [cs'[j]'(by omega)] := by
      rw [List.drop_eq_getElem_cons (by omega)]
      rfl
    rw [hone'] at h1
    have hys : ys[j]? = some (ys[j]'(by omega)) := List.getElem?_eq_getElem (by omega)
    refine ⟨_, _, ?_, hys, h1.trans hys⟩
    rw [← Go.Deep.add_add, hcell, hv]
end
theorem list_of {α : Type} {n : Nat} {P : Nat → α → Prop} (h : ∀ i, i < n → ∃ x, P i x) : ∃ l : List α, l.length = n ∧ ∀ i (hi : i < l.length), P i l[i] := by
  induction n with
  | zero => exact ⟨[], rfl, fun i hi => absurd hi (by simp)⟩
  | succ n ih =>
    obtain ⟨l, hl, hp⟩ := ih fun i hi => h i (by omega)
    obtain ⟨x, hx⟩ := h n (by omega)
    refine ⟨l ++ [x], by simp [hl], fun i hi => ?_⟩
    by_cases e : i < l.length
    · rw [List.getElem_append_left e]; exact hp i e
    · have : i = n := by simp at hi; omega
      subst this
      rw [List.getElem_append_right (by omega)]
      simp [hl]; exact hx
section
variable {H : Type} {P : Program} {B : Nat}
theorem weightsAll_le {e : TypeId} : ∀ {l : List (DataW H)}, (∀ n ∈ DataW.weightsAll P e l, n ≤ B) → ∀ d ∈ l, ∀ n ∈ d.weights P e, n ≤ B
  | [], _, d, hd => by cases hd
  | y :: r, h, d, hd => by
    intro n hn
    rcases List.mem_cons.1 hd with rfl | hd
    · exact h n (by unfold DataW.weightsAll; exact List.mem_append_left _ hn)
    · exact weightsAll_le (l := r) (fun m hm => h m (by unfold DataW.weightsAll; exact List.mem_append_right _ hm)) d hd n hn
theorem weightsEach_le : ∀ {ts : List TypeId} {l : List (DataW H)}, (∀ n ∈ DataW.weightsEach P ts l, n ≤ B) → ∀ (j : Nat) (t : TypeId) (d : DataW H), ts[j]? = some t → l[j]? = some d → ∀ n ∈ d.weights P t, n ≤ B
  | [], _, _, j, t, d, ht, _ => by simp at ht
  | _ :: _, [], _, j, t, d, _, hd => by simp at hd
  | u :: ts, y :: r, h, 0, t, d, ht, hd => by
    intro n hn
    have e1 : u = t := by simpa using ht
    have e2 : y = d := by simpa using hd
    subst e1; subst e2
    exact h n (by unfold DataW.weightsEach; exact List.mem_append_left _ hn)
  | u :: ts, y :: r, h, j + 1, t, d, ht, hd => weightsEach_le (ts := ts) (l := r) (fun m hm => h m (by unfold DataW.weightsEach; exact List.mem_append_right _ hm)) j t d (by simpa using ht) (by simpa using hd)
theorem weight_string {t : TypeId} {s : ByteArray} (h : ∀ n ∈ (DataW.lit (.string s.data.toList) : DataW H).weights P t, n ≤ B) : s.size ≤ B := by
  have := h s.data.toList.length (by simp [DataW.weights])
  simpa using this
theorem weight_slice {t e : TypeId} {k : Nat} {elems spare : List (DataW H)} (ht : P.underlying t = some (.slice e)) (hk : P.bytesOf e = k) (h : ∀ n ∈ (DataW.slice elems spare).weights P t, n ≤ B) :
    (elems.length + spare.length) * k ≤ B ∧ ∀ d ∈ elems, ∀ n ∈ d.weights P e, n ≤ B := by
  unfold DataW.weights at h
  rw [ht] at h
  simp only at h
  rw [hk] at h
  exact ⟨h _ (List.mem_cons_self ..), weightsAll_le fun n hn => h n (List.mem_cons_of_mem _ (List.mem_append_left _ hn))⟩
theorem weight_agg {t : TypeId} {fs : Array Field} {parts : List (DataW H)} (ht : P.underlying t = some (.struct fs)) (h : ∀ n ∈ (DataW.agg parts).weights P t, n ≤ B) (j : Nat) (f : Field) (d : DataW H) (hf : fs[j]? = some f) (hd : parts[j]? = some d) :
    ∀ n ∈ d.weights P f.type, n ≤ B := by
  unfold DataW.weights at h
  rw [ht] at h
  exact weightsEach_le h j f.type d (by simp [hf]) hd
end
section
variable {H : Type} {enc : TypeId × Value → H} {W : World} {base : Nat}
set_option maxRecDepth 100000 in
theorem open_terms {v : Value} {d : DataW H} {p : List MemPlace} (hval : Value.okWide Tryz.prog W .any base 26 v) (h : DataW.Trod enc Tryz.prog W 0 (fun _ => true) true 26 v d p) (hB : ∀ n ∈ d.weights Tryz.prog 26, n ≤ reachBytes) :
    ∃ A l c, v = .slice A l.length c ∧ Cells W A (strs l) ∧ l.length ≤ reachBytes ∧ ∀ y ∈ l, y.size ≤ reachBytes := by
  obtain ⟨A, len, cap, rfl⟩ := okWide_slice Tryz.underlying26 hval
  obtain ⟨fuel, hf⟩ := h
  rcases open_slice1 Tryz.underlying26 (by kernel_rfl) hf with ⟨hcs, -⟩ | ⟨a, len', cap', m, n, V, D, Pl, hcs, -, hl, hm, hmm, hx, hi⟩
  · have hcs' : [Value.slice A len cap] = [.slice none 0 0] := hcs
    simp only [List.cons.injEq, Value.slice.injEq, and_true] at hcs'
    obtain ⟨rfl, rfl, rfl⟩ := hcs'
    exact ⟨none, [], 0, rfl, Cells.nil _ _, Nat.zero_le _, fun y hy => by cases hy⟩
  · have hcs' : [Value.slice A len cap] = [.slice (some a) len' cap'] := hcs
    simp only [List.cons.injEq, Value.slice.injEq, and_true] at hcs'
    obtain ⟨rfl, rfl, rfl⟩ := hcs'
    simp only [if_true] at hmm
    subst hmm
    injection hx with hx1 hx2
    subst hx1
    obtain ⟨hw, hwe⟩ := weight_slice Tryz.underlying26 (show Tryz.prog.bytesOf 29 = 16 by kernel_rfl) hB
    have hex : ∀ i, i < len → ∃ s : ByteArray, W.cell? (a.add i) = some (.string s) ∧ s.size ≤ reachBytes := by
      intro i him
      obtain ⟨hc, ht⟩ := hi i (by omega)
      have hwi := hwe (D i) (List.mem_map.2 ⟨i, List.mem_range.2 him, rfl⟩)
      obtain ⟨s, e, hy, -⟩ := DataW.trod_string Tryz.underlying29 ht
      simp only [List.cons.injEq, and_true] at e
      rw [e] at hc
      injection hy with hy1 hy2
      rw [hy1] at hwi
      exact ⟨s, hc, weight_string hwi⟩
    obtain ⟨l, hll, hp⟩ := list_of hex
    subst hll
    simp only [List.length_map, List.length_range] at hw
    refine ⟨some a, l, _, rfl, fun _ => ⟨a, rfl, fun j u hj => ?_⟩, by omega, fun y hy => ?_⟩
    · have hjl : j < l.length := by have := (List.getElem?_eq_some_iff.1 hj).1; simpa [strs] using this
      have hv : (strs l)[j]? = some (.string l[j]) := by unfold strs; rw [List.getElem?_map, List.getElem?_eq_getElem hjl]; rfl
      rw [hv] at hj
      injection hj with hj
      subst hj
      exact (hp j hjl).1
    · obtain ⟨k, hk, rfl⟩ := List.getElem_of_mem hy
      exact (hp k hk).2
end
end Go.Proofs.YtaonadgelkdbcaaGreatDoor

namespace Go.Proofs.YtaonadgelkdbcaaGreatDoor
open Go.ChangeShapes Go.WideShapes Go.ChangeAt Go.RowKit Go.WideMaps Go.WideElems

theorem array6 {α : Type} {cs : Array α} (h : cs.size = 6) : ∃ c0 c1 c2 c3 c4 c5, cs = #[c0, c1, c2, c3, c4, c5] := by
  obtain ⟨l⟩ := cs
  match l, h with
  | [c0, c1, c2, c3, c4, c5], _ => exact ⟨c0, c1, c2, c3, c4, c5, rfl⟩
section
variable {H : Type} {enc : TypeId × Value → H} {W : World} {base : Nat}
set_option maxRecDepth 100000 in
theorem open_secrets {v : Value} {d : DataW H} {p : List MemPlace} (hval : Value.okWide Tryz.prog W .any base 54 v) (h : DataW.Trod enc Tryz.prog W 0 (fun _ => true) true 54 v d p) (hB : ∀ n ∈ d.weights Tryz.prog 54, n ≤ reachBytes) :
    ∃ s : SecR, v = secV s ∧ s.fund.size ≤ reachBytes ∧ s.rev.size ≤ reachBytes ∧ s.pay.size ≤ reachBytes ∧ s.later.size ≤ reachBytes ∧ s.htlc.size ≤ reachBytes ∧ s.seed.size ≤ reachBytes := by
  obtain ⟨cs, rfl, hsz⟩ := okWide_struct Tryz.underlying54 hval
  obtain ⟨c0, c1, c2, c3, c4, c5, rfl⟩ := array6 (hsz.trans (show Tryz.prog.cellsOf 54 = 6 by kernel_rfl))
  obtain ⟨fuel, hf⟩ := h
  obtain ⟨xs, n, -, hx, hl, hlen, hfi⟩ := DataW.trod_struct Tryz.underlying54 hf
  obtain ⟨y0, y1, y2, y3, y4, y5, rfl⟩ : ∃ y0 y1 y2 y3 y4 y5, xs = [y0, y1, y2, y3, y4, y5] := by
    match xs, hlen with
    | [y0, y1, y2, y3, y4, y5], _ => exact ⟨_, _, _, _, _, _, rfl⟩
  have hcell : Tryz.prog.cellsOf 29 = 1 := by kernel_rfl
  have t0 := hfi 0 _ rfl
  have t1 := hfi 1 _ rfl
  have t2 := hfi 2 _ rfl
  have t3 := hfi 3 _ rfl
  have t4 := hfi 4 _ rfl
  have t5 := hfi 5 _ rfl
  simp only [Value.cells, hcell] at t0 t1 t2 t3 t4 t5
  obtain ⟨s0, e0, q0, -⟩ := DataW.trod_string Tryz.underlying29 t0
  obtain ⟨s1, e1, q1, -⟩ := DataW.trod_string Tryz.underlying29 t1
  obtain ⟨s2, e2, q2, -⟩ := DataW.trod_string Tryz.underlying29 t2
  obtain ⟨s3, e3, q3, -⟩ := DataW.trod_string Tryz.underlying29 t3
  obtain ⟨s4, e4, q4, -⟩ := DataW.trod_string Tryz.underlying29 t4
  obtain ⟨s5, e5, q5, -⟩ := DataW.trod_string Tryz.underlying29 t5
  subst q0; subst q1; subst q2; subst q3; subst q4; subst q5
  simp [hcell] at e0 e1 e2 e3 e4 e5
  subst e0; subst e1; subst e2; subst e3; subst e4; subst e5
  simp only [Prod.mk.injEq, List.map_cons, List.map_nil] at hx
  obtain ⟨hx1, -⟩ := hx
  subst hx1
  have z0 := weight_agg (fs := _) Tryz.underlying54 hB 0 _ _ rfl rfl
  have z1 := weight_agg (fs := _) Tryz.underlying54 hB 1 _ _ rfl rfl
  have z2 := weight_agg (fs := _) Tryz.underlying54 hB 2 _ _ rfl rfl
  have z3 := weight_agg (fs := _) Tryz.underlying54 hB 3 _ _ rfl rfl
  have z4 := weight_agg (fs := _) Tryz.underlying54 hB 4 _ _ rfl rfl
  have z5 := weight_agg (fs := _) Tryz.underlying54 hB 5 _ _ rfl rfl
  exact ⟨⟨s0, s1, s2, s3, s4, s5⟩, rfl, weight_string z0, weight_string z1, weight_string z2, weight_string z3, weight_string z4, weight_string z5⟩
end
end Go.Proofs.YtaonadgelkdbcaaGreatDoor

namespace Go.Proofs.YtaonadgelkdbcaaGreatDoor
open Go.ChangeShapes Go.WideShapes Go.ChangeAt Go.RowKit Go.WideMaps Go.WideElems

theorem own : ownKnob Tryz.prog.godebug = none := by kernel_rfl
theorem laidOut : laidOutB Tryz.prog = true := by kernel_rfl

section
variable {H : Type} {enc : TypeId × Value → H}

def Readable (t : TypeId) : Prop := Tryz.prog.readableRec t = true ∧ t < Tryz.prog.types.size
theorem trodAll_stays {W W' : World} {sp : Nat → Bool} (hb : Below W.heap.size W W') {ts : List TypeId} (hr : ∀ t ∈ ts, Readable t) : ∀ {vs : List Value} {ds : List (DataW H)} {ps : List MemPlace},
    DataW.TrodAll enc Tryz.prog W 0 (fun _ => true) true ts vs ds ps → (∀ p ∈ ps, p.block < W.heap.size) → (∀ p ∈ ps, sp p.block = true) → DataW.TrodAll enc Tryz.prog W' 0 sp true ts vs ds ps := by
  induction ts with
  | nil =>
    intro vs ds ps h _ _
    obtain ⟨rfl, rfl, rfl⟩ := trodAll_nil h
    exact trodAll_mk0
  | cons t ts ih =>
    intro vs ds ps h hlt hs
    obtain ⟨v, vs', d, ds', p, q, rfl, rfl, rfl, h0, h1⟩ := trodAll_cons h
    have h2 := hr t (List.mem_cons_self ..)
    exact trodAll_cons_mk (Trod_stays laidOut h2.1 h2.2 h0 (fun x hx => hb.same (hlt x (List.mem_append_left _ hx))) (fun x hx => hs x (List.mem_append_left _ hx)))
      (ih (fun u hu => hr u (List.mem_cons_of_mem _ hu)) h1 (fun x hx => hlt x (List.mem_append_right _ hx)) (fun x hx => hs x (List.mem_append_right _ hx)))

set_option maxRecDepth 100000 in
/-- The law's last step: its call gave true, and only new blocks were laid. -/
theorem post_true {f : Func} {s : ChangeSpec} {W W' : World} {args : Array Value} {ds : List (DataW H)} {before : List MemPlace}
    (hW : DataW.Whole enc Tryz.prog f.params.toList s.vars false W args.toList ds [] before) (hvs : s.vars = []) (hf : ∀ t ∈ f.params.toList, Readable t)
    (hr : f.resultTypes = #[4]) (hfn : s.fn H (ds ++ []) = { results := [.lit (.bool true)], args := ds }) (hb : Below W.heap.size W W') :
    s.post enc Tryz.prog f false true false false W args (.bool true) W' := by
  have hW' := hW
  obtain ⟨p, q, hA, hV, rfl, hfz, hnd⟩ := hW
  rw [hvs] at hV
  obtain ⟨-, rfl⟩ := trodVars_none hV
  have hlt0 : ∀ x ∈ p ++ [], x.block < W.heap.size := fun x hx => hW'.lt x hx
  have hlt : ∀ x ∈ p, x.block < W.heap.size := fun x hx => hlt0 x (List.mem_append_left _ hx)
  have hres : ∀ (b : Nat) (sp : Nat → Bool) (hd : Bool), DataW.TrodAll enc Tryz.prog W' b sp hd f.resultTypes.toList ((Value.bool true).resultList f.resultTypes.size) (s.fn H (ds ++ [])).results [] := by
    intro b sp hd
    rw [hfn, hr]
    exact trodAll_mk1 (shut_bool Tryz.underlying4 _)
  have hold : ∀ x ∈ p, (fun b => decide (b < W.heap.size)) x.block = true := fun x hx => by simpa using hlt x hx
  have hargs : ∀ sp : Nat → Bool, (∀ x ∈ p, sp x.block = true) → DataW.TrodAll enc Tryz.prog W' 0 sp true f.params.toList args.toList (s.fn H (ds ++ [])).args p := by
    intro sp hsp
    rw [hfn]
    exact trodAll_stays hb hf hA hlt hsp
  have hvars : ∀ sp : Nat → Bool, DataW.TrodVars enc Tryz.prog W' sp s.vars (s.fn H (ds ++ [])).vars [] := by
    intro sp
    rw [hvs, hfn]
    exact rfl
  refine ⟨ds, [], p ++ [], [], p, [], hW', hres _ _ _, hargs _ hold, hvars _, World.keptBut_mono (fun x hx => ⟨hx, ?_⟩) (hb.frame (· ∈ p ++ [])), fun _ => ?_⟩
  · rw [List.mem_append] at hx
    exact Or.inr hx
  · refine ⟨ok_one hr rfl (okWide_bool_mk Tryz.underlying4 _), _, _, ([] ++ p) ++ [], ⟨[] ++ p, [], trodAll_append (hargs _ (fun _ _ => rfl)) (hres _ _ _), hvars _, rfl, ?_, ?_⟩, ?_⟩
    · intro b off hp
      have hin : MemPlace.cell b off ∈ p ++ [] := by simpa using hp
      rw [hb.frozen (hlt0 _ hin)]
      exact hfz b off hin
    · intro ha; cases ha
    · intro x hx _
      simpa using hx

end
end Go.Proofs.YtaonadgelkdbcaaGreatDoor
