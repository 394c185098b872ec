/- What a failure loses, plain: names, quota, all kept. · The law: what a failure loses. · The law: what a failure loses. -/
import Derived.Test.YtikbphafpmdpeaaQ5
import Derived.Test.YtikbphafpmdpeaaQ6
set_option linter.all false
namespace Go.Proofs.Ytikbphafpmdpeaa
open Go.RowKit

def loneB : ByteArray := { data := #[0, 32, 97, 32, 110, 97, 109, 101, 32, 116, 104, 97, 116, 32, 110, 111, 32, 111, 110, 101, 32, 104, 97, 115] }
def keysOf (d : DiskT) : List ByteArray := d.files.map Prod.fst
theorem set_keys {l : List (ByteArray × FileT)} {k x : ByteArray} {f : FileT} (h : x ∈ (mset l k f).map Prod.fst) : x = k ∨ x ∈ l.map Prod.fst := by
  have h1 := mset_keys l k f
  have h2 : (mset l k f).map Prod.fst = if (mget l k).isSome = true then l.map Prod.fst else l.map Prod.fst ++ [k] := h1
  rw [h2] at h
  split at h
  · exact .inr h
  · rcases List.mem_append.1 h with h | h
    · exact .inr h
    · simp at h; exact .inl h
theorem del_keys {l : List (ByteArray × FileT)} {k x : ByteArray} (h : x ∈ (mdel l k).map Prod.fst) : x ∈ l.map Prod.fst := ((mdel_sub l k).map Prod.fst).subset h
theorem step_keys (d : DiskT) : (stepD d).2.files = d.files ∧ (stepD d).2.quota = d.quota := by
  unfold stepD
  split <;> exact ⟨rfl, rfl⟩
/-- No names but these come, and the quota stays. -/
def Grows (d d' : DiskT) (a b : ByteArray) : Prop := (∀ x ∈ keysOf d', x ∈ keysOf d ∨ x = a ∨ x = b) ∧ d'.quota = d.quota
theorem Grows.refl (d : DiskT) (a b : ByteArray) : Grows d d a b := ⟨fun _ h => .inl h, rfl⟩
theorem grows_steps {d : DiskT} {a b : ByteArray} {f : DiskT → DiskT} (hf : ∀ d1 : DiskT, d1.files = d.files → d1.quota = d.quota → Grows d (f d1) a b) : Grows d (stepsD d f).2 a b := by
  obtain ⟨h1, h2⟩ := step_keys d
  unfold stepsD
  split
  · exact hf _ h1 h2
  · exact ⟨fun x hx => .inl (by unfold keysOf at *; rw [← h1]; exact hx), h2⟩
theorem gone_keys {d : DiskT} {k x : ByteArray} (h : x ∈ keysOf (goneD d k)) : x ∈ keysOf d := by
  unfold goneD at h
  split at h
  · exact h
  · exact del_keys h
theorem gone_quota (d : DiskT) (k : ByteArray) : (goneD d k).quota = d.quota := by unfold goneD; split <;> rfl
theorem play_grows (d : DiskT) (x : OpT) : Grows d (playD d x) x.name x.dst := by
  unfold playD
  split
  · unfold createD
    repeat' split
    all_goals first | exact Grows.refl _ _ _ | skip
    refine grows_steps fun d1 h1 h2 => ⟨fun y hy => ?_, h2⟩
    rcases set_keys hy with h | h
    · exact .inr (.inl h)
    · exact .inl (by unfold keysOf; rw [← h1]; exact h)
  · unfold writeD
    repeat' split
    all_goals first
      | exact Grows.refl _ _ _
      | (refine grows_steps fun d1 h1 h2 => ⟨fun y hy => ?_, h2⟩
         rcases set_keys hy with h | h
         · exact .inr (.inl h)
         · exact .inl (by unfold keysOf; rw [← h1]; exact h))
  · unfold syncD
    repeat' split
    all_goals first | exact Grows.refl _ _ _ | skip
    refine grows_steps fun d1 h1 h2 => ⟨fun y hy => ?_, h2⟩
    rcases set_keys hy with h | h
    · exact .inr (.inl h)
    · exact .inl (by unfold keysOf; rw [← h1]; exact h)
  · unfold renameD
    split
    · exact Grows.refl _ _ _
    · split
      · exact Grows.refl _ _ _
      · refine grows_steps fun d1 h1 h2 => ?_
        split
        · exact ⟨fun y hy => .inl (by unfold keysOf at *; rw [← h1]; exact hy), h2⟩
        · refine ⟨fun y hy => ?_, by show (goneD d1 x.dst).quota = _; rw [gone_quota]; exact h2⟩
          rcases set_keys hy with h | h
          · exact .inr (.inr h)
          · have h3 := gone_keys (del_keys h)
            exact .inl (by unfold keysOf at *; rw [← h1]; exact h3)
  · unfold removeD
    split
    · exact Grows.refl _ _ _
    · refine grows_steps fun d1 h1 h2 => ⟨fun y hy => .inl ?_, by rw [gone_quota]; exact h2⟩
      have h3 := gone_keys hy
      unfold keysOf at *
      rw [← h1]; exact h3
  · unfold failD
    split
    · exact Grows.refl _ _ _
    · exact ⟨fun y hy => .inl hy, rfl⟩
  · unfold onD
    split
    · exact Grows.refl _ _ _
    · refine ⟨fun y hy => .inl ?_, rfl⟩
      unfold keysOf at *
      have e : (d.files.map fun p => (p.1, onF (opensD d) ((d.set.map Prod.snd).getD 0) p.2)).map Prod.fst = d.files.map Prod.fst := by rw [List.map_map]; rfl
      have h2 : y ∈ (d.files.map fun p => (p.1, onF (opensD d) ((d.set.map Prod.snd).getD 0) p.2)).map Prod.fst := hy
      rw [e] at h2; exact h2
  · exact Grows.refl _ _ _
theorem plays_keys : ∀ (l : List OpT) (d : DiskT), (∀ x ∈ keysOf (playsD d l), x ∈ keysOf d ∨ ∃ y ∈ l, x = y.name ∨ x = y.dst) ∧ (playsD d l).quota = d.quota
  | [], d => ⟨fun _ h => .inl h, rfl⟩
  | y :: l, d => by
    obtain ⟨h1, h2⟩ := plays_keys l (playD d y)
    obtain ⟨g1, g2⟩ := play_grows d y
    refine ⟨fun x hx => ?_, h2.trans g2⟩
    rcases h1 x hx with h | ⟨z, hz, h⟩
    · rcases g1 x h with h | h
      · exact .inl h
      · exact .inr ⟨y, List.mem_cons_self .., h⟩
    · exact .inr ⟨z, List.mem_cons_of_mem _ hz, h⟩
theorem on_keys (d : DiskT) : keysOf (onD d) = keysOf d ∧ (onD d).quota = d.quota := by
  unfold onD
  split
  · exact ⟨rfl, rfl⟩
  · refine ⟨?_, rfl⟩
    show (d.files.map fun p => (p.1, onF (opensD d) ((d.set.map Prod.snd).getD 0) p.2)).map Prod.fst = _
    rw [List.map_map]; rfl
theorem bit_all (n : Nat) : bitB 18446744073709551615 n = true := by
  have h : n % 64 < 64 := Nat.mod_lt _ (by decide)
  unfold bitB
  generalize n % 64 = k at h
  have : ∀ k < 64, decide (18446744073709551615 >>> k % 2 = 1) = true := by decide
  exact this k h
theorem stay_all {all : List WrT} {f : FileT} {no : Nat} (h : f.Ok no) : stayF all 18446744073709551615 f = f.now := by
  unfold stayF
  rw [h.now, List.filter_eq_self.2 fun w _ => bit_all _]
/-- A copy that crashes with all kept. -/
def crash (d : DiskT) (k : Nat) : DiskT := { d with set := some (0, k), off := true }
theorem crash_create {d : DiskT} {k : Nat} (hoff : d.off = false) (hn : loneB ∉ keysOf d) (hl : d.files.length < 256) : createD (failD d 0 k) loneB = (7, crash d k) := by
  rw [fail_set hoff]
  unfold createD
  have hg : (mget d.files loneB).isSome = false := by
    cases hb : (mget d.files loneB).isSome with
    | false => rfl
    | true => exact absurd (mget_isSome.1 hb) hn
  rw [if_neg (show ¬ ({ d with set := some ((max (0 : Int) 0).toNat, k) } : DiskT).off = true by show ¬ d.off = true; rw [hoff]; simp), if_neg (show ¬ namedB loneB = false by decide), if_neg (show ¬ (mget d.files loneB).isSome = true by rw [hg]; simp), if_neg (show ¬ 256 ≤ d.files.length by omega)]
  rfl
theorem crash_there {d : DiskT} {k : Nat} (hoff : d.off = false) (hn : loneB ∈ keysOf d) : createD (failD d 0 k) loneB = (90, failD d 0 k) ∧ (failD d 0 k).off = false := by
  rw [fail_set hoff]
  unfold createD
  have hg : (mget d.files loneB).isSome = true := mget_isSome.2 hn
  rw [if_neg (show ¬ ({ d with set := some ((max (0 : Int) 0).toNat, k) } : DiskT).off = true by show ¬ d.off = true; rw [hoff]; simp), if_neg (show ¬ namedB loneB = false by decide), if_pos (show (mget d.files loneB).isSome = true from hg)]
  exact ⟨rfl, hoff⟩
theorem crash_inv {d : DiskT} {k : Nat} (h : Inv d) (hk : k < 18446744073709551616) : Inv (crash d k) :=
  ⟨h.nodup, h.names, h.count, h.sum, h.within, h.quota, h.files, h.apart, h.no, fun i j hs => by
    have h1 : some (0, k) = some (i, j) := hs
    injection h1 with h1
    injection h1 with h2 h3
    subst h2; subst h3
    exact ⟨by decide, hk⟩, fun _ => rfl⟩
/-- All that is told of a disk that came on with all kept. -/
theorem crash_all {d : DiskT} (h : Inv d) : (onD (crash d 18446744073709551615)).used = d.used ∧ (onD (crash d 18446744073709551615)).off = false ∧ keysOf (onD (crash d 18446744073709551615)) = keysOf d ∧
    ∀ name f, mget d.files name = some f → mget (onD (crash d 18446744073709551615)).files name = some ⟨f.now, f.now, []⟩ := by
  have he : onD (crash d 18446744073709551615) = { crash d 18446744073709551615 with files := d.files.map fun p => (p.1, onF (opensD d) 18446744073709551615 p.2), used := sumN (d.files.map fun p => (p.1, onF (opensD d) 18446744073709551615 p.2)), off := false, set := none } := by
    unfold onD
    rw [if_neg (by simp [crash])]
    rfl
  have hf : ∀ p ∈ d.files, onF (opensD d) 18446744073709551615 p.2 = ⟨p.2.now, p.2.now, []⟩ := fun p hp => by
    unfold onF
    rw [stay_all (h.files p hp)]
  refine ⟨?_, by rw [he], (on_keys _).1, fun name f hg => ?_⟩
  · rw [he, h.sum]
    show sumN _ = sumN _
    unfold sumN
    rw [List.map_map]
    congr 1
    refine List.map_congr_left fun p hp => ?_
    show (onF (opensD d) 18446744073709551615 p.2).now.length = _
    rw [hf p hp]
  · rw [he]
    show mget (d.files.map fun p => (p.1, onF (opensD d) 18446744073709551615 p.2)) name = _
    rw [mget_onmap, hg]
    show some (onF (opensD d) 18446744073709551615 f) = _
    rw [hf (name, f) (mget_mem hg)]
theorem crash_some {d : DiskT} {k : Nat} (h : Inv d) (hk : k < 18446744073709551616) : (onD (crash d k)).used ≤ d.used ∧ (onD (crash d k)).off = false ∧ keysOf (onD (crash d k)) = keysOf d :=
  ⟨(crash_inv h hk).onD'.2, on_off _, (on_keys _).1⟩
theorem skeys_keys {α β : Type} {l : List (ByteArray × α)} {r : List (ByteArray × β)} (h : (l.map Prod.fst).Perm (r.map Prod.fst)) : skeys l = skeys r := by
  unfold skeys
  have h2 : (l.map fun p => p.1.data.toList).Perm (r.map fun p => p.1.data.toList) := by
    have := h.map fun k : ByteArray => k.data.toList
    rw [List.map_map, List.map_map] at this
    exact this
  rw [mergeSort_of_perm h2]
end Go.Proofs.Ytikbphafpmdpeaa

set_option linter.all false
namespace Go.Proofs.Ytikbphafpmdpeaa
open Go.RowKit

theorem lone_list : loneB.toList = [0, 32, 97, 32, 110, 97, 109, 101, 32, 116, 104, 97, 116, 32, 110, 111, 32, 111, 110, 101, 32, 104, 97, 115] := by
  rw [Go.ByteArray.toList_eq]; rfl
set_option maxRecDepth 100000 in
set_option maxHeartbeats 4000000 in
theorem has_any {W V : World} {A : Option Addr} {l : List OpT} {c : Nat} (hk : ∀ i, i < W.heap.size → V.heap[i]? = W.heap[i]?) (ho : OpsIn W A l) (hl : l.length ≤ 1000) (hx : ∃ y ∈ l, loneB = y.name ∨ loneB = y.dst) :
    Calls Try.prog 22 #[.slice A l.length c] V fun e w' => e = .returned (.bool true) ∧ V = w' := by
  have HK := Lib.hid hk
  have HO := Lib.hid ho
  have HX := Lib.hid hx
  clear hk ho hx
  go_enter Try.func22, Try.ntmps22
  go_wp2_with fail
  go_loop [3] (fun i => ∃ j : Nat, j ≤ l.length ∧ i = .int .i64 j ∧ ∀ k (hk : k < l.length), k < j → loneB ≠ l[k].name ∧ loneB ≠ l[k].dst) (fun i => l.length - (intOf i).toNat)
  case atStart => exact ⟨0, Nat.zero_le _, rfl, fun _ _ h => by omega⟩
  case round =>
    obtain ⟨j, hj, rfl, hall⟩ := hrel
    have HALL := Lib.hid hall
    clear hall
    by_cases hlt : j < l.length
    · obtain ⟨ad, had, -, q1, q2, -⟩ := ops_look HK.out HO.out hlt
      subst had
      have hji : ((j : Nat) : Int) < l.length := by omega
      by_cases e1 : l[j].name = loneB
      · have e1' := tl_t e1
        obtain ⟨P, hP⟩ : ∃ P, l[j].name = P := ⟨_, rfl⟩
        rw [hP] at q1 e1'
        rw [lone_list] at e1'
        clear e1 hP
        go_wp2_with fail
        go_ret
        exact ⟨rfl, rfl⟩
      · have e1' := tl_f e1
        have HE1 := Lib.hid e1
        obtain ⟨P, hP⟩ : ∃ P, l[j].name = P := ⟨_, rfl⟩
        rw [hP] at q1 e1'
        rw [lone_list] at e1'
        clear e1 hP
        by_cases e2 : l[j].dst = loneB
        · have e2' := tl_t e2
          obtain ⟨P2, hP2⟩ : ∃ P, l[j].dst = P := ⟨_, rfl⟩
          rw [hP2] at q2 e2'
          rw [lone_list] at e2'
          clear e2 hP2
          go_wp2_with fail
          go_ret
          exact ⟨rfl, rfl⟩
        · have e2' := tl_f e2
          have HE2 := Lib.hid e2
          obtain ⟨P2, hP2⟩ : ∃ P, l[j].dst = P := ⟨_, rfl⟩
          rw [hP2] at q2 e2'
          rw [lone_list] at e2'
          clear e2 hP2
          go_wp2_with fail
          go_round
          case rel =>
            refine ⟨j + 1, hlt, by go_num, fun k hk hkj => ?_⟩
            rcases Nat.lt_or_ge k j with h | h
            · exact HALL.out k hk h
            · obtain rfl : k = j := by omega
              exact ⟨fun e => HE1.out e.symm, fun e => HE2.out e.symm⟩
          case measure => simp [intOf]; omega
    · exfalso
      obtain ⟨y, hy, h⟩ := HX.out
      obtain ⟨k, hk, rfl⟩ := List.getElem_of_mem hy
      have h1 := HALL.out k hk (by omega)
      rcases h with h | h
      · exact h1.1 h
      · exact h1.2 h
/-- The disk and its two copies. -/
structure Tri (W w : World) (p pa ps : Nat) (Fd Fa Fs : List Nat) (d a s : DiskT) : Prop where
  d_ : DkO w p Fd d
  a_ : DkO w pa Fa a
  s_ : DkO w ps Fs s
  da : ∀ i ∈ Fd, i ∉ Fa
  ds : ∀ i ∈ Fd, i ∉ Fs
  as_ : ∀ i ∈ Fa, i ∉ Fs
  la : ∀ i ∈ Fa, W.heap.size ≤ i
  ls : ∀ i ∈ Fs, W.heap.size ≤ i
  bel : Below W.heap.size W w
section
variable {W w w' : World} {p pa ps : Nat} {Fd Fa Fs Fa' Fs' : List Nat} {d a s a' s' : DiskT}
theorem Tri.below (h : Tri W w p pa ps Fd Fa Fs d a s) (hb : Below w.heap.size w w') : Tri W w' p pa ps Fd Fa Fs d a s :=
  ⟨h.d_.below hb, h.a_.below hb, h.s_.below hb, h.da, h.ds, h.as_, h.la, h.ls, h.bel.trans (hb.mono h.bel.size)⟩
theorem Tri.ofA (h : Tri W w p pa ps Fd Fa Fs d a s) (hl : LeftO w pa Fa a' Fa' w') : Tri W w' p pa ps Fd Fa' Fs d a' s :=
  ⟨h.d_.fr hl.fr h.da, hl.at_, h.s_.fr hl.fr fun i hi hi2 => h.as_ i hi2 hi, fun i hi hi2 => by
    rcases hl.new i hi2 with h1 | h1
    · exact h.da i hi h1
    · exact absurd (h.d_.lt i hi) (by omega), h.ds, fun i hi hi2 => by
    rcases hl.new i hi with h1 | h1
    · exact h.as_ i h1 hi2
    · exact absurd (h.s_.lt i hi2) (by omega), fun i hi => by
    rcases hl.new i hi with h1 | h1
    · exact h.la i h1
    · exact Nat.le_trans h.bel.size h1, h.ls, h.bel.trans (hl.fr.toBelowOf h.bel.size h.la)⟩
theorem Tri.ofS (h : Tri W w p pa ps Fd Fa Fs d a s) (hl : LeftO w ps Fs s' Fs' w') : Tri W w' p pa ps Fd Fa Fs' d a s' :=
  ⟨h.d_.fr hl.fr h.ds, h.a_.fr hl.fr h.as_, hl.at_, h.da, fun i hi hi2 => by
    rcases hl.new i hi2 with h1 | h1
    · exact h.ds i hi h1
    · exact absurd (h.d_.lt i hi) (by omega), fun i hi hi2 => by
    rcases hl.new i hi2 with h1 | h1
    · exact h.as_ i hi h1
    · exact absurd (h.a_.lt i hi) (by omega), h.la, fun i hi => by
    rcases hl.new i hi with h1 | h1
    · exact h.ls i h1
    · exact Nat.le_trans h.bel.size h1, h.bel.trans (hl.fr.toBelowOf h.bel.size h.ls)⟩
end
end Go.Proofs.Ytikbphafpmdpeaa

set_option linter.all false
namespace Go.Proofs.Ytikbphafpmdpeaa
open Go.RowKit

theorem nodup_le : ∀ (l r : List ByteArray), l.Nodup → (∀ x ∈ l, x ∈ r) → l.length ≤ r.length
  | [], _, _, _ => Nat.zero_le _
  | x :: l, r, hn, h => by
    obtain ⟨h1, h2⟩ := List.nodup_cons.1 hn
    have hx := h x (List.mem_cons_self ..)
    have h3 := nodup_le l (r.filter fun y => decide (y ≠ x)) h2 fun y hy => List.mem_filter.2 ⟨h y (List.mem_cons_of_mem _ hy), by simpa using fun e : y = x => h1 (e ▸ hy)⟩
    have h4 : (r.filter fun y => decide (y ≠ x)).length < r.length := List.length_filter_lt_length_iff_exists.2 ⟨x, hx, by simp⟩
    rw [List.length_cons]
    omega
theorem namesD_of {d a : DiskT} (hd : d.off = false) (ha : a.off = false) (h : (keysOf a).Perm (keysOf d)) : namesD a = namesD d := by
  unfold namesD
  rw [if_neg (by rw [ha]; simp), if_neg (by rw [hd]; simp)]
  exact skeys_keys h
set_option maxRecDepth 100000 in
set_option maxHeartbeats 16000000 in
theorem loses_law {l : List OpT} {A : Option Addr} {c keep : Nat} {quota : Int} {W : World} (ha : OpsIn W A l) (hoa : ∀ x ∈ l, x.Ok) (hkeep : keep < 18446744073709551616) :
    Calls Try.prog 4 #[.int .i64 quota, .slice A l.length c, .int .u64 (keep : Int)] W fun e w' => e = .returned (.bool true) ∧ Below W.heap.size W w' := by
  have HA := Lib.hid ha
  have HOA := Lib.hid hoa
  have HKP := Lib.hid hkeep
  clear ha hoa hkeep
  by_cases h1 : 60 < l.length
  · have h1' : ((l.length : Int) > 60) := by omega
    go_enter Try.func4, Try.ntmps4
    go_wp2_with fail
    refine (works_any _).mono ?_
    rintro e wz ⟨rfl, hbz⟩
    have HBZ := Lib.hid hbz
    clear hbz
    go_wp2_with fail
    go_ret
    exact ⟨rfl, HBZ.out⟩
  · have h1' : ¬ ((l.length : Int) > 60) := by omega
    go_enter Try.func4, Try.ntmps4
    go_wp2_with fail
    refine (new_o quota _).mono ?_
    rintro e w1 ⟨p, F0, rfl, hd1, hbn1, hlo1⟩
    have HD1 := Lib.hid hd1
    have HBN1 := Lib.hid hbn1
    have HLO1 := Lib.hid hlo1
    clear hd1 hbn1 hlo1
    go_wp2_with fail
    refine (rnew_any quota _).mono ?_
    rintro e w2 ⟨q, vf, vo, vs, rfl, hr2, hnr, hbn2⟩
    have HALL := Lib.hid (duo_new HD1.out HBN1.out HLO1.out hr2 hnr hbn2)
    have HG := Lib.hid HALL.out.1
    have HBW := Lib.hid HALL.out.2.1
    have HLO := Lib.hid HALL.out.2.2
    generalize fpR q vf vo = Fm0 at HG HLO
    clear HALL HD1 HBN1 HLO1 hr2 hnr hbn2
    go_wp2_with fail
    go_loopw [9] (fun i wr => ∃ j : Nat, j ≤ l.length ∧ i = .int .i64 j ∧ Gone w2 p q F0 Fm0 (playsD (newD quota) (l.take j)) (playsR (newR quota) (l.take j)) wr) (fun i _ => l.length - (intOf i).toNat)
    case atStart => exact ⟨0, Nat.zero_le _, rfl, HG.out⟩
    case round =>
      obtain ⟨j, hj, rfl, hg⟩ := hrel
      have HG := Lib.hid hg
      clear hg
      by_cases hlt : j < l.length
      · have hkw := (fr_early HBW.out HG.out.fr HLO.out).block
        obtain ⟨ad, had, q0, q1, q2, q3, q4, q5, q6⟩ := ops_look hkw HA.out hlt
        subst had
        have hji : ((j : Nat) : Int) < l.length := by omega
        have hz0 : (newD quota).steps = 0 := rfl
        have hz1 : (newR quota).count = 0 := rfl
        have hst1 := playsD_steps (l.take j) (newD quota)
        have hst2 := playsR_count (l.take j) (newR quota)
        rw [List.length_take] at hst1 hst2
        have HPL := Lib.hid (HG.out.plays (x := l[j]) (by omega) (by omega) (HOA.out _ (List.getElem_mem hlt)))
        have HS1 := Lib.hid (playsD_snoc (newD quota) l hlt)
        have HS2 := Lib.hid (playsR_snoc (newR quota) l hlt)
        obtain ⟨kd, nm, ds, pg, lg, fl, kp⟩ := l[j]
        clear hkw hst1 hst2 hz0 hz1
        go_wp2_with fail
        refine HPL.out.mono ?_
        rintro e w' ⟨rfl, hg2⟩
        have HG2 := Lib.hid hg2
        clear hg2
        go_wp2_with fail
        go_roundw
        case rel => exact ⟨j + 1, hlt, by go_num, by rw [HS1.out, HS2.out]; exact HG2.out⟩
        case measure => simp [intOf]; omega
      · have hji : ¬ ((j : Nat) : Int) < l.length := by omega
        have hje : l.take j = l := List.take_of_length_le (by omega)
        have hg3 := HG.out
        rw [hje] at hg3
        have HG := Lib.hid hg3
        clear hg3 hje
        have hpk := plays_keys l (newD quota)
        have hst := playsD_steps l (newD quota)
        have hst0 : (newD quota).steps = 0 := rfl
        rw [hst0] at hst
        have hkk : ∀ x ∈ keysOf (playsD (newD quota) l), ∃ y ∈ l, x = y.name ∨ x = y.dst := fun x hx => by
          rcases hpk.1 x hx with h | h
          · simp [keysOf, newD] at h
          · exact h
        have hqq := hpk.2
        generalize playsD (newD quota) l = d at HG hst hkk hqq
        generalize playsR (newR quota) l = m1 at HG
        clear hpk hst0
        go_wp2_with fail
        refine HG.out.off.mono ?_
        rintro e wo ⟨rfl, hwo⟩
        subst hwo
        cases hof : d.off
        · have hof1 := hof
          obtain ⟨d1, rfl⟩ : ∃ x, x = d := ⟨_, rfl⟩
          have HKK := Lib.hid hkk
          have HQQ := Lib.hid hqq
          clear hkk hqq hof
          have hmem : ∀ x ∈ keysOf d1, x ∈ l.map OpT.name ++ l.map OpT.dst := fun x hx => by
            obtain ⟨y, hy, h | h⟩ := HKK.out x hx
            · exact List.mem_append_left _ (List.mem_map.2 ⟨y, hy, h.symm⟩)
            · exact List.mem_append_right _ (List.mem_map.2 ⟨y, hy, h.symm⟩)
          obtain ⟨Fd, Fm, hdu, hlo, hlt⟩ := HG.out.again HLO.out HBW.out.size
          have HBW5 := Lib.hid (fr_early HBW.out HG.out.fr HLO.out)
          have HD5 := Lib.hid hdu.dk
          have HI := Lib.hid hdu.dk.inv
          have hlen : d1.files.length ≤ 120 := by
            have h2 := nodup_le (keysOf d1) _ HI.out.nodup hmem
            rw [List.length_append, List.length_map, List.length_map] at h2
            unfold keysOf at h2
            rw [List.length_map] at h2
            omega
          clear hdu hlo hlt HG HBW HLO hmem
          go_wp2_with fail
          refine (HD5.out.copy (by omega)).mono ?_
          rintro e w6 ⟨pa, Fa, da, rfl, hA, heA, hbA, hloA⟩
          have HA6 := Lib.hid hA
          have HEA := Lib.hid heA
          have HBA := Lib.hid hbA
          have HLA := Lib.hid hloA
          have HD6 := Lib.hid (HD5.out.below hbA)
          clear hA heA hbA hloA
          go_wp2_with fail
          refine (HD6.out.copy (by omega)).mono ?_
          rintro e w7 ⟨ps, Fs, ds, rfl, hS, heS, hbS, hloS⟩
          have HT := Lib.hid (show Tri W w7 p pa ps Fd Fa Fs d1 da ds from ⟨HD6.out.below hbS, HA6.out.below hbS, hS, fun i hi hi2 => absurd (HD5.out.lt i hi) (by have := HLA.out i hi2; omega), fun i hi hi2 => absurd (HD6.out.lt i hi) (by have := hloS i hi2; omega), fun i hi hi2 => absurd (HA6.out.lt i hi) (by have := hloS i hi2; omega),
            fun i hi => Nat.le_trans HBW5.out.size (HLA.out i hi), fun i hi => Nat.le_trans (Nat.le_trans HBW5.out.size HBA.out.size) (hloS i hi), (HBW5.out.trans (HBA.out.mono HBW5.out.size)).trans (hbS.mono (Nat.le_trans HBW5.out.size HBA.out.size))⟩)
          have HES := Lib.hid heS
          have hoA : da.off = false := by rw [HEA.out.2]; exact hof1
          have hoS : ds.off = false := by rw [HES.out.2]; exact hof1
          have hsA : da.steps = d1.steps := by rw [HEA.out.2]
          have hsS : ds.steps = d1.steps := by rw [HES.out.2]
          have huA : da.used = d1.used := by rw [HEA.out.2]
          have huS : ds.used = d1.used := by rw [HES.out.2]
          have hkA : (keysOf da).Perm (keysOf d1) := HEA.out.1.map _
          have hkS : (keysOf ds).Perm (keysOf d1) := HES.out.1.map _
          have hlA : da.files.length < 256 := by rw [HEA.out.1.length_eq]; omega
          have hlS : ds.files.length < 256 := by rw [HES.out.1.length_eq]; omega
          have hnl : ((namesD d1).length : Int) < 256 := by
            unfold namesD
            rw [if_neg (by rw [hof1]; simp), skeys_len]
            omega
          have HIA := Lib.hid HT.out.a_.inv
          have HIS := Lib.hid HT.out.s_.inv
          clear hS heS hbS hloS HA6 HD6 HD5 HBA HLA HBW5
          go_wp2_with fail
          refine (HT.out.a_.fail (n := 0) (k := 18446744073709551615) (by decide) (by decide)).mono ?_
          rintro e w8 ⟨rfl, Fa2, hL⟩
          have HT := Lib.hid (HT.out.ofA hL)
          clear hL
          go_wp2_with fail
          refine (HT.out.s_.fail (n := 0) (k := keep) (by decide) HKP.out).mono ?_
          rintro e w9 ⟨rfl, Fs2, hL⟩
          have HT := Lib.hid (HT.out.ofS hL)
          clear hL
          by_cases hn : loneB ∈ keysOf d1
          · have HCA := Lib.hid (crash_there (k := 18446744073709551615) hoA (hkA.mem_iff.2 hn))
            have HCS := Lib.hid (crash_there (k := keep) hoS (hkS.mem_iff.2 hn))
            have hc1 := HT.out.a_.create (by rw [fail_steps]; omega) loneB
            rw [HCA.out.1] at hc1
            unfold loneB at hc1
            have HC1 := Lib.hid hc1
            clear hc1
            go_wp2_with fail
            refine HC1.out.mono ?_
            rintro e wb ⟨rfl, Fa3, hL⟩
            have HT := Lib.hid (HT.out.ofA hL)
            clear hL HC1
            have hc1 := HT.out.s_.create (by rw [fail_steps]; omega) loneB
            rw [HCS.out.1] at hc1
            unfold loneB at hc1
            have HC1 := Lib.hid hc1
            clear hc1
            go_wp2_with fail
            refine HC1.out.mono ?_
            rintro e wc ⟨rfl, Fs3, hL⟩
            have HT := Lib.hid (HT.out.ofS hL)
            clear hL HC1
            go_wp2_with fail
            refine HT.out.d_.used.mono ?_
            rintro e wd ⟨rfl, hwd⟩
            subst hwd
            go_wp2_with fail
            refine HT.out.d_.names.mono ?_
            rintro e we ⟨v, rfl, ho, hb⟩
            obtain ⟨Av, cv, hv, -, -⟩ := own_shape ho
            subst hv
            have HT := Lib.hid (HT.out.below hb)
            clear ho hb
            have hof2 := HT.out.a_.off
            simp only [HCA.out.2] at hof2
            have HOF := Lib.hid hof2
            clear hof2
            go_wp2_with fail
            refine HOF.out.mono ?_
            rintro e wf ⟨rfl, hwf⟩
            subst hwf
            go_wp2_with fail
            refine (has_any (HT.out.bel.block) HA.out (by omega) (HKK.out _ hn)).mono ?_
            rintro e wg ⟨rfl, hwg⟩
            subst hwg
            go_wp2_with fail
            refine (works_any _).mono ?_
            rintro e wz ⟨rfl, hbz⟩
            have HBZ := Lib.hid hbz
            clear hbz
            go_wp2_with fail
            go_ret
            exact ⟨rfl, HT.out.bel.trans (HBZ.out.mono HT.out.bel.size)⟩
          · have hnA : loneB ∉ keysOf da := fun h => hn (hkA.mem_iff.1 h)
            have hnS : loneB ∉ keysOf ds := fun h => hn (hkS.mem_iff.1 h)
            have hc1 := HT.out.a_.create (by rw [fail_steps]; omega) loneB
            rw [crash_create hoA hnA hlA] at hc1
            unfold loneB at hc1
            have HC1 := Lib.hid hc1
            clear hc1
            go_wp2_with fail
            refine HC1.out.mono ?_
            rintro e wb ⟨rfl, F3, hL⟩
            have HT := Lib.hid (HT.out.ofA hL)
            clear hL HC1
            have hc1 := HT.out.s_.create (by rw [fail_steps]; omega) loneB
            rw [crash_create hoS hnS hlS] at hc1
            unfold loneB at hc1
            have HC1 := Lib.hid hc1
            clear hc1
            go_wp2_with fail
            refine HC1.out.mono ?_
            rintro e wb ⟨rfl, F3, hL⟩
            have HT := Lib.hid (HT.out.ofS hL)
            clear hL HC1
            have HALF := Lib.hid (crash_all HIA.out)
            have HSOM := Lib.hid (crash_some HIS.out HKP.out)
            have hca1 : (crash da 18446744073709551615).off = true := rfl
            have hca2 : (crash da 18446744073709551615).steps = da.steps := rfl
            have hcs1 : (crash ds keep).off = true := rfl
            have hcs2 : (crash ds keep).steps = ds.steps := rfl
            generalize crash da 18446744073709551615 = ca at HT HALF hca1 hca2
            generalize crash ds keep = cs at HT HSOM hcs1 hcs2
            have hus := HT.out.d_.used
            go_wp2_with fail
            refine hus.mono ?_
            rintro e wd ⟨rfl, hwd⟩
            subst hwd
            clear hus
            go_wp2_with fail
            refine HT.out.d_.names.mono ?_
            rintro e we ⟨v, rfl, ho, hb⟩
            obtain ⟨Av, cv, hv, -, -⟩ := own_shape ho
            subst hv
            have HT := Lib.hid (HT.out.below hb)
            clear ho hb
            have hof2 := HT.out.a_.off
            rw [hca1] at hof2
            go_wp2_with fail
            refine hof2.mono ?_
            rintro e wf ⟨rfl, hwf⟩
            subst hwf
            clear hof2
            have hof2 := HT.out.s_.off
            rw [hcs1] at hof2
            go_wp2_with fail
            refine hof2.mono ?_
            rintro e wf ⟨rfl, hwf⟩
            subst hwf
            clear hof2
            go_wp2_with fail
            refine (HT.out.a_.on (by omega)).mono ?_
            rintro e wg ⟨rfl, F4, hL⟩
            have HT := Lib.hid (HT.out.ofA hL)
            clear hL
            go_wp2_with fail
            refine (HT.out.s_.on (by omega)).mono ?_
            rintro e wg ⟨rfl, F5, hL⟩
            have HT := Lib.hid (HT.out.ofS hL)
            clear hL
            generalize onD ca = aa at HT HALF
            generalize onD cs = ss at HT HSOM
            obtain ⟨ns, hns⟩ : ∃ ns, namesD d1 = ns := ⟨_, rfl⟩
            have hna : namesD aa = ns := by rw [← hns]; exact namesD_of hof1 HALF.out.2.1 (by rw [HALF.out.2.2.1]; exact hkA)
            have hnsS : namesD ss = ns := by rw [← hns]; exact namesD_of hof1 HSOM.out.2.1 (by rw [HSOM.out.2.2]; exact hkS)
            have HNS := Lib.hid hns
            rw [hns] at hnl
            have hnm := HT.out.d_.names
            rw [hns] at hnm
            go_wp2_with fail
            refine hnm.mono ?_
            rintro e wx ⟨v2, rfl, ho2, hb2⟩
            obtain ⟨Ax, cx, hv2, -, hc2⟩ := own_shape ho2
            subst hv2
            have HT := Lib.hid (HT.out.below hb2)
            have HX := Lib.hid hc2
            clear ho2 hb2 hnm hc2 hns
            have hnm := HT.out.a_.names
            rw [hna] at hnm
            go_wp2_with fail
            refine hnm.mono ?_
            rintro e wx ⟨v2, rfl, ho2, hb2⟩
            obtain ⟨A2, c2, hv2, -, hc2⟩ := own_shape ho2
            subst hv2
            have HT := Lib.hid (HT.out.below hb2)
            have HX := Lib.hid (Cells.below HX.out hb2)
            clear ho2 hb2 hnm
            have hne := names_eq A2 Ax ns.length ns.length c2 cx ns ns wx hc2 HX.out rfl rfl (by omega)
            rw [decide_eq_true rfl] at hne
            go_wp2_with fail
            refine hne.mono ?_
            rintro e wy ⟨rfl, hb3⟩
            have HT := Lib.hid (HT.out.below hb3)
            have HX := Lib.hid (Cells.below HX.out hb3)
            clear hb3 hne hc2
            have hnm := HT.out.s_.names
            rw [hnsS] at hnm
            go_wp2_with fail
            refine hnm.mono ?_
            rintro e wx ⟨v2, rfl, ho2, hb2⟩
            obtain ⟨A2, c2, hv2, -, hc2⟩ := own_shape ho2
            subst hv2
            have HT := Lib.hid (HT.out.below hb2)
            have HX := Lib.hid (Cells.below HX.out hb2)
            clear ho2 hb2 hnm
            have hne := names_eq A2 Ax ns.length ns.length c2 cx ns ns wx hc2 HX.out rfl rfl (by omega)
            rw [decide_eq_true rfl] at hne
            go_wp2_with fail
            refine hne.mono ?_
            rintro e wy ⟨rfl, hb3⟩
            have HT := Lib.hid (HT.out.below hb3)
            have HX := Lib.hid (Cells.below HX.out hb3)
            clear hb3 hne hc2
            have hus := HT.out.a_.used
            rw [HALF.out.1, huA] at hus
            go_wp2_with fail
            refine hus.mono ?_
            rintro e wd ⟨rfl, hwd⟩
            subst hwd
            clear hus
            have hle : ¬ ((ss.used : Int) > d1.used) := by have := HSOM.out.1; omega
            have hus := HT.out.s_.used
            go_wp2_with fail
            refine hus.mono ?_
            rintro e wd ⟨rfl, hwd⟩
            subst hwd
            clear hus
            have HTELL := Lib.hid (show ∀ (j : Nat) (hj : j < ns.length), ∃ f : FileT, lenD d1 ns[j] = (0, f.now.length) ∧ f.now.length ≤ 65536 ∧ (∀ (k : Nat) (hk : k < f.now.length), readD d1 ns[j] k = (0, some f.now[k]) ∧ readD aa ns[j] k = (0, some f.now[k])) from fun j hj => by
              have hm : ns[j] ∈ keysOf d1 := by
                have h1 : ns[j] ∈ namesD d1 := by rw [HNS.out]; exact List.getElem_mem hj
                unfold namesD at h1
                rw [if_neg (by rw [hof1]; simp)] at h1
                exact (skeys_perm _).mem_iff.1 h1
              cases hg : mget d1.files ns[j] with
              | none =>
                have h2 := mget_isSome.2 hm
                rw [hg] at h2; cases h2
              | some f =>
                have hga : mget da.files ns[j] = some f := by rw [mget_perm HEA.out.1 HIA.out.nodup]; exact hg
                have h3 := HALF.out.2.2.2 _ _ hga
                have h4 := HI.out.get_le hg
                have h5 := HI.out.within
                have h6 := HI.out.quota
                have hfd : findD d1 ns[j] = .inr f := by unfold findD; rw [if_neg (by rw [hof1]; simp), hg]
                have hfa : findD aa ns[j] = .inr ⟨f.now, f.now, []⟩ := by unfold findD; rw [if_neg (by rw [HALF.out.2.1]; simp), h3]
                refine ⟨f, by unfold lenD; rw [hfd], by omega, fun k hk => ⟨?_, ?_⟩⟩
                · unfold readD
                  rw [hfd]
                  simp only
                  rw [if_neg (by omega), Int.toNat_natCast, List.getElem?_eq_getElem hk]
                · unfold readD
                  rw [hfa]
                  simp only
                  rw [if_neg (by omega), Int.toNat_natCast, List.getElem?_eq_getElem hk])
            have hfin : (d1.used : Int) ≤ max (min quota 65536) 0 := by
              have h2 := HI.out.within
              rw [HQQ.out] at h2
              have e2 : (newD quota).quota = min (max quota 0).toNat 65536 := rfl
              rw [e2] at h2
              omega
            go_wp2_with fail
            go_loopw [14] (fun i wr => ∃ j : Nat, j ≤ ns.length ∧ i = .int .i64 j ∧ Below wy.heap.size wy wr) (fun i _ => ns.length - (intOf i).toNat)
            case atStart => exact ⟨0, Nat.zero_le _, rfl, Below.refl _ _⟩
            case round =>
              obtain ⟨j, hj, rfl, hbr⟩ := hrel
              have HB := Lib.hid hbr
              clear hbr
              by_cases hlt : j < ns.length
              · have hji : ((j : Nat) : Int) < ns.length := by omega
                obtain ⟨f, hln, hf65, hrd⟩ := HTELL.out j hlt
                obtain ⟨adx, hax, hcx0⟩ := (Cells.below HX.out HB.out) (by rw [List.length_map]; omega)
                have hcx := hcx0 j (.string ns[j]) (by simp [hlt])
                subst hax
                obtain ⟨nm, hnm⟩ : ∃ nm, ns[j] = nm := ⟨_, rfl⟩
                simp only [hnm] at hcx hln hrd
                have HRD := Lib.hid hrd
                have hl := (HT.out.below HB.out).d_.len nm
                rw [hln] at hl
                clear hrd hcx0 hnm hln
                go_wp2_with fail
                refine hl.mono ?_
                rintro e wl ⟨rfl, hwl⟩
                subst hwl
                clear hl
                obtain ⟨wo, rfl⟩ : ∃ x, x = wr := ⟨_, rfl⟩
                go_wp2_with fail
                go_loopw [17] (fun k wr => ∃ i : Nat, i ≤ f.now.length ∧ k = .int .i64 i ∧ Below wo.heap.size wo wr) (fun k _ => f.now.length - (intOf k).toNat)
                case atStart => exact ⟨0, Nat.zero_le _, rfl, Below.refl _ _⟩
                case round =>
                  obtain ⟨i, hi, rfl, hbq⟩ := hrel
                  have HBQ := Lib.hid (HB.out.trans (hbq.mono HB.out.size))
                  have HBO := Lib.hid hbq
                  have hcq := cell_below hbq hcx
                  clear hbq
                  by_cases hil : i < f.now.length
                  · have hii : ((i : Nat) : Int) < f.now.length := by omega
                    obtain ⟨hr1, hr2⟩ := HRD.out i hil
                    have g1 := (HT.out.below HBQ.out).d_.read nm (i : Int)
                    rw [hr1] at g1
                    have HR2 := Lib.hid hr2
                    clear hr1 hr2
                    go_wp2_with fail
                    refine g1.mono ?_
                    rintro e w8 ⟨v, rfl, hv⟩
                    have hb8 := hv.below
                    obtain ⟨Ar, nr, cr, rfl, hl1, hc1, -, -⟩ := hv.bytes
                    have hcq2 := cell_below hb8 hcq
                    have g2 := ((HT.out.below HBQ.out).below hb8).a_.read nm (i : Int)
                    rw [HR2.out] at g2
                    have HC1 := Lib.hid hc1
                    have HL1 := Lib.hid hl1
                    have HB8 := Lib.hid hb8
                    clear g1 hv hb8 hc1 hl1
                    go_wp2_with fail
                    refine g2.mono ?_
                    rintro e w9 ⟨v, rfl, hv2⟩
                    have hb9 := hv2.below
                    obtain ⟨Ar2, nr2, cr2, rfl, hl2, hc2, -, -⟩ := hv2.bytes
                    have hcv1 := conv_bytes (Cells.below HC1.out hb9) nr cr HL1.out
                    have hcv2 := conv_bytes hc2 nr2 cr2 hl2
                    obtain ⟨bs, hbs⟩ : ∃ bs : ByteArray, (⟨(f.now[i]).b.toArray⟩ : ByteArray) = bs := ⟨_, rfl⟩
                    rw [show (⟨(pgO (0, some f.now[i]).2).toArray⟩ : ByteArray) = bs from hbs] at hcv1 hcv2
                    have HB9 := Lib.hid (HBO.out.trans ((HB8.out.trans (hb9.mono HB8.out.size)).mono HBO.out.size))
                    clear g2 hv2 hb9 hc2 hl2 hbs
                    go_wp2_with fail
                    go_roundw
                    case rel => exact ⟨i + 1, hil, by go_num, HB9.out⟩
                    case measure => simp [intOf]; omega
                  · have hii : ¬ ((i : Nat) : Int) < f.now.length := by omega
                    go_wp2_with fail
                    go_roundw
                    case rel => exact ⟨j + 1, hlt, by go_num, HBQ.out⟩
                    case measure => simp [intOf]; omega
              · have hji : ¬ ((j : Nat) : Int) < ns.length := by omega
                have hus := (HT.out.below HB.out).d_.used
                go_wp2_with fail
                refine hus.mono ?_
                rintro e wd ⟨rfl, hwd⟩
                subst hwd
                clear hus
                have HBF := Lib.hid (HT.out.bel.trans (HB.out.mono HT.out.bel.size))
                go_wp2_with fail
                refine (works_any _).mono ?_
                rintro e wz ⟨rfl, hbz⟩
                have HBZ := Lib.hid hbz
                clear hbz
                go_wp2_with fail
                go_ret
                exact ⟨rfl, HBF.out.trans (HBZ.out.mono HBF.out.size)⟩
        · go_wp2_with fail
          refine (HG.out.on (by omega)).mono ?_
          rintro e wn ⟨rfl, hg⟩
          have HG := Lib.hid hg
          clear hg
          have hof1 := on_off d
          have hso := on_steps d
          have hko := on_keys d
          rw [← hko.1] at hkk
          rw [← hko.2] at hqq
          rw [← hso] at hst
          generalize onD d = d1 at HG hof1 hkk hqq hst
          have HKK := Lib.hid hkk
          have HQQ := Lib.hid hqq
          clear hkk hqq hof hko hso
          have hmem : ∀ x ∈ keysOf d1, x ∈ l.map OpT.name ++ l.map OpT.dst := fun x hx => by
            obtain ⟨y, hy, h | h⟩ := HKK.out x hx
            · exact List.mem_append_left _ (List.mem_map.2 ⟨y, hy, h.symm⟩)
            · exact List.mem_append_right _ (List.mem_map.2 ⟨y, hy, h.symm⟩)
          obtain ⟨Fd, Fm, hdu, hlo, hlt⟩ := HG.out.again HLO.out HBW.out.size
          have HBW5 := Lib.hid (fr_early HBW.out HG.out.fr HLO.out)
          have HD5 := Lib.hid hdu.dk
          have HI := Lib.hid hdu.dk.inv
          have hlen : d1.files.length ≤ 120 := by
            have h2 := nodup_le (keysOf d1) _ HI.out.nodup hmem
            rw [List.length_append, List.length_map, List.length_map] at h2
            unfold keysOf at h2
            rw [List.length_map] at h2
            omega
          clear hdu hlo hlt HG HBW HLO hmem
          go_wp2_with fail
          refine (HD5.out.copy (by omega)).mono ?_
          rintro e w6 ⟨pa, Fa, da, rfl, hA, heA, hbA, hloA⟩
          have HA6 := Lib.hid hA
          have HEA := Lib.hid heA
          have HBA := Lib.hid hbA
          have HLA := Lib.hid hloA
          have HD6 := Lib.hid (HD5.out.below hbA)
          clear hA heA hbA hloA
          go_wp2_with fail
          refine (HD6.out.copy (by omega)).mono ?_
          rintro e w7 ⟨ps, Fs, ds, rfl, hS, heS, hbS, hloS⟩
          have HT := Lib.hid (show Tri W w7 p pa ps Fd Fa Fs d1 da ds from ⟨HD6.out.below hbS, HA6.out.below hbS, hS, fun i hi hi2 => absurd (HD5.out.lt i hi) (by have := HLA.out i hi2; omega), fun i hi hi2 => absurd (HD6.out.lt i hi) (by have := hloS i hi2; omega), fun i hi hi2 => absurd (HA6.out.lt i hi) (by have := hloS i hi2; omega),
            fun i hi => Nat.le_trans HBW5.out.size (HLA.out i hi), fun i hi => Nat.le_trans (Nat.le_trans HBW5.out.size HBA.out.size) (hloS i hi), (HBW5.out.trans (HBA.out.mono HBW5.out.size)).trans (hbS.mono (Nat.le_trans HBW5.out.size HBA.out.size))⟩)
          have HES := Lib.hid heS
          have hoA : da.off = false := by rw [HEA.out.2]; exact hof1
          have hoS : ds.off = false := by rw [HES.out.2]; exact hof1
          have hsA : da.steps = d1.steps := by rw [HEA.out.2]
          have hsS : ds.steps = d1.steps := by rw [HES.out.2]
          have huA : da.used = d1.used := by rw [HEA.out.2]
          have huS : ds.used = d1.used := by rw [HES.out.2]
          have hkA : (keysOf da).Perm (keysOf d1) := HEA.out.1.map _
          have hkS : (keysOf ds).Perm (keysOf d1) := HES.out.1.map _
          have hlA : da.files.length < 256 := by rw [HEA.out.1.length_eq]; omega
          have hlS : ds.files.length < 256 := by rw [HES.out.1.length_eq]; omega
          have hnl : ((namesD d1).length : Int) < 256 := by
            unfold namesD
            rw [if_neg (by rw [hof1]; simp), skeys_len]
            omega
          have HIA := Lib.hid HT.out.a_.inv
          have HIS := Lib.hid HT.out.s_.inv
          clear hS heS hbS hloS HA6 HD6 HD5 HBA HLA HBW5
          go_wp2_with fail
          refine (HT.out.a_.fail (n := 0) (k := 18446744073709551615) (by decide) (by decide)).mono ?_
          rintro e w8 ⟨rfl, Fa2, hL⟩
          have HT := Lib.hid (HT.out.ofA hL)
          clear hL
          go_wp2_with fail
          refine (HT.out.s_.fail (n := 0) (k := keep) (by decide) HKP.out).mono ?_
          rintro e w9 ⟨rfl, Fs2, hL⟩
          have HT := Lib.hid (HT.out.ofS hL)
          clear hL
          by_cases hn : loneB ∈ keysOf d1
          · have HCA := Lib.hid (crash_there (k := 18446744073709551615) hoA (hkA.mem_iff.2 hn))
            have HCS := Lib.hid (crash_there (k := keep) hoS (hkS.mem_iff.2 hn))
            have hc1 := HT.out.a_.create (by rw [fail_steps]; omega) loneB
            rw [HCA.out.1] at hc1
            unfold loneB at hc1
            have HC1 := Lib.hid hc1
            clear hc1
            go_wp2_with fail
            refine HC1.out.mono ?_
            rintro e wb ⟨rfl, Fa3, hL⟩
            have HT := Lib.hid (HT.out.ofA hL)
            clear hL HC1
            have hc1 := HT.out.s_.create (by rw [fail_steps]; omega) loneB
            rw [HCS.out.1] at hc1
            unfold loneB at hc1
            have HC1 := Lib.hid hc1
            clear hc1
            go_wp2_with fail
            refine HC1.out.mono ?_
            rintro e wc ⟨rfl, Fs3, hL⟩
            have HT := Lib.hid (HT.out.ofS hL)
            clear hL HC1
            go_wp2_with fail
            refine HT.out.d_.used.mono ?_
            rintro e wd ⟨rfl, hwd⟩
            subst hwd
            go_wp2_with fail
            refine HT.out.d_.names.mono ?_
            rintro e we ⟨v, rfl, ho, hb⟩
            obtain ⟨Av, cv, hv, -, -⟩ := own_shape ho
            subst hv
            have HT := Lib.hid (HT.out.below hb)
            clear ho hb
            have hof2 := HT.out.a_.off
            simp only [HCA.out.2] at hof2
            have HOF := Lib.hid hof2
            clear hof2
            go_wp2_with fail
            refine HOF.out.mono ?_
            rintro e wf ⟨rfl, hwf⟩
            subst hwf
            go_wp2_with fail
            refine (has_any (HT.out.bel.block) HA.out (by omega) (HKK.out _ hn)).mono ?_
            rintro e wg ⟨rfl, hwg⟩
            subst hwg
            go_wp2_with fail
            refine (works_any _).mono ?_
            rintro e wz ⟨rfl, hbz⟩
            have HBZ := Lib.hid hbz
            clear hbz
            go_wp2_with fail
            go_ret
            exact ⟨rfl, HT.out.bel.trans (HBZ.out.mono HT.out.bel.size)⟩
          · have hnA : loneB ∉ keysOf da := fun h => hn (hkA.mem_iff.1 h)
            have hnS : loneB ∉ keysOf ds := fun h => hn (hkS.mem_iff.1 h)
            have hc1 := HT.out.a_.create (by rw [fail_steps]; omega) loneB
            rw [crash_create hoA hnA hlA] at hc1
            unfold loneB at hc1
            have HC1 := Lib.hid hc1
            clear hc1
            go_wp2_with fail
            refine HC1.out.mono ?_
            rintro e wb ⟨rfl, F3, hL⟩
            have HT := Lib.hid (HT.out.ofA hL)
            clear hL HC1
            have hc1 := HT.out.s_.create (by rw [fail_steps]; omega) loneB
            rw [crash_create hoS hnS hlS] at hc1
            unfold loneB at hc1
            have HC1 := Lib.hid hc1
            clear hc1
            go_wp2_with fail
            refine HC1.out.mono ?_
            rintro e wb ⟨rfl, F3, hL⟩
            have HT := Lib.hid (HT.out.ofS hL)
            clear hL HC1
            have HALF := Lib.hid (crash_all HIA.out)
            have HSOM := Lib.hid (crash_some HIS.out HKP.out)
            have hca1 : (crash da 18446744073709551615).off = true := rfl
            have hca2 : (crash da 18446744073709551615).steps = da.steps := rfl
            have hcs1 : (crash ds keep).off = true := rfl
            have hcs2 : (crash ds keep).steps = ds.steps := rfl
            generalize crash da 18446744073709551615 = ca at HT HALF hca1 hca2
            generalize crash ds keep = cs at HT HSOM hcs1 hcs2
            have hus := HT.out.d_.used
            go_wp2_with fail
            refine hus.mono ?_
            rintro e wd ⟨rfl, hwd⟩
            subst hwd
            clear hus
            go_wp2_with fail
            refine HT.out.d_.names.mono ?_
            rintro e we ⟨v, rfl, ho, hb⟩
            obtain ⟨Av, cv, hv, -, -⟩ := own_shape ho
            subst hv
            have HT := Lib.hid (HT.out.below hb)
            clear ho hb
            have hof2 := HT.out.a_.off
            rw [hca1] at hof2
            go_wp2_with fail
            refine hof2.mono ?_
            rintro e wf ⟨rfl, hwf⟩
            subst hwf
            clear hof2
            have hof2 := HT.out.s_.off
            rw [hcs1] at hof2
            go_wp2_with fail
            refine hof2.mono ?_
            rintro e wf ⟨rfl, hwf⟩
            subst hwf
            clear hof2
            go_wp2_with fail
            refine (HT.out.a_.on (by omega)).mono ?_
            rintro e wg ⟨rfl, F4, hL⟩
            have HT := Lib.hid (HT.out.ofA hL)
            clear hL
            go_wp2_with fail
            refine (HT.out.s_.on (by omega)).mono ?_
            rintro e wg ⟨rfl, F5, hL⟩
            have HT := Lib.hid (HT.out.ofS hL)
            clear hL
            generalize onD ca = aa at HT HALF
            generalize onD cs = ss at HT HSOM
            obtain ⟨ns, hns⟩ : ∃ ns, namesD d1 = ns := ⟨_, rfl⟩
            have hna : namesD aa = ns := by rw [← hns]; exact namesD_of hof1 HALF.out.2.1 (by rw [HALF.out.2.2.1]; exact hkA)
            have hnsS : namesD ss = ns := by rw [← hns]; exact namesD_of hof1 HSOM.out.2.1 (by rw [HSOM.out.2.2]; exact hkS)
            have HNS := Lib.hid hns
            rw [hns] at hnl
            have hnm := HT.out.d_.names
            rw [hns] at hnm
            go_wp2_with fail
            refine hnm.mono ?_
            rintro e wx ⟨v2, rfl, ho2, hb2⟩
            obtain ⟨Ax, cx, hv2, -, hc2⟩ := own_shape ho2
            subst hv2
            have HT := Lib.hid (HT.out.below hb2)
            have HX := Lib.hid hc2
            clear ho2 hb2 hnm hc2 hns
            have hnm := HT.out.a_.names
            rw [hna] at hnm
            go_wp2_with fail
            refine hnm.mono ?_
            rintro e wx ⟨v2, rfl, ho2, hb2⟩
            obtain ⟨A2, c2, hv2, -, hc2⟩ := own_shape ho2
            subst hv2
            have HT := Lib.hid (HT.out.below hb2)
            have HX := Lib.hid (Cells.below HX.out hb2)
            clear ho2 hb2 hnm
            have hne := names_eq A2 Ax ns.length ns.length c2 cx ns ns wx hc2 HX.out rfl rfl (by omega)
            rw [decide_eq_true rfl] at hne
            go_wp2_with fail
            refine hne.mono ?_
            rintro e wy ⟨rfl, hb3⟩
            have HT := Lib.hid (HT.out.below hb3)
            have HX := Lib.hid (Cells.below HX.out hb3)
            clear hb3 hne hc2
            have hnm := HT.out.s_.names
            rw [hnsS] at hnm
            go_wp2_with fail
            refine hnm.mono ?_
            rintro e wx ⟨v2, rfl, ho2, hb2⟩
            obtain ⟨A2, c2, hv2, -, hc2⟩ := own_shape ho2
            subst hv2
            have HT := Lib.hid (HT.out.below hb2)
            have HX := Lib.hid (Cells.below HX.out hb2)
            clear ho2 hb2 hnm
            have hne := names_eq A2 Ax ns.length ns.length c2 cx ns ns wx hc2 HX.out rfl rfl (by omega)
            rw [decide_eq_true rfl] at hne
            go_wp2_with fail
            refine hne.mono ?_
            rintro e wy ⟨rfl, hb3⟩
            have HT := Lib.hid (HT.out.below hb3)
            have HX := Lib.hid (Cells.below HX.out hb3)
            clear hb3 hne hc2
            have hus := HT.out.a_.used
            rw [HALF.out.1, huA] at hus
            go_wp2_with fail
            refine hus.mono ?_
            rintro e wd ⟨rfl, hwd⟩
            subst hwd
            clear hus
            have hle : ¬ ((ss.used : Int) > d1.used) := by have := HSOM.out.1; omega
            have hus := HT.out.s_.used
            go_wp2_with fail
            refine hus.mono ?_
            rintro e wd ⟨rfl, hwd⟩
            subst hwd
            clear hus
            have HTELL := Lib.hid (show ∀ (j : Nat) (hj : j < ns.length), ∃ f : FileT, lenD d1 ns[j] = (0, f.now.length) ∧ f.now.length ≤ 65536 ∧ (∀ (k : Nat) (hk : k < f.now.length), readD d1 ns[j] k = (0, some f.now[k]) ∧ readD aa ns[j] k = (0, some f.now[k])) from fun j hj => by
              have hm : ns[j] ∈ keysOf d1 := by
                have h1 : ns[j] ∈ namesD d1 := by rw [HNS.out]; exact List.getElem_mem hj
                unfold namesD at h1
                rw [if_neg (by rw [hof1]; simp)] at h1
                exact (skeys_perm _).mem_iff.1 h1
              cases hg : mget d1.files ns[j] with
              | none =>
                have h2 := mget_isSome.2 hm
                rw [hg] at h2; cases h2
              | some f =>
                have hga : mget da.files ns[j] = some f := by rw [mget_perm HEA.out.1 HIA.out.nodup]; exact hg
                have h3 := HALF.out.2.2.2 _ _ hga
                have h4 := HI.out.get_le hg
                have h5 := HI.out.within
                have h6 := HI.out.quota
                have hfd : findD d1 ns[j] = .inr f := by unfold findD; rw [if_neg (by rw [hof1]; simp), hg]
                have hfa : findD aa ns[j] = .inr ⟨f.now, f.now, []⟩ := by unfold findD; rw [if_neg (by rw [HALF.out.2.1]; simp), h3]
                refine ⟨f, by unfold lenD; rw [hfd], by omega, fun k hk => ⟨?_, ?_⟩⟩
                · unfold readD
                  rw [hfd]
                  simp only
                  rw [if_neg (by omega), Int.toNat_natCast, List.getElem?_eq_getElem hk]
                · unfold readD
                  rw [hfa]
                  simp only
                  rw [if_neg (by omega), Int.toNat_natCast, List.getElem?_eq_getElem hk])
            have hfin : (d1.used : Int) ≤ max (min quota 65536) 0 := by
              have h2 := HI.out.within
              rw [HQQ.out] at h2
              have e2 : (newD quota).quota = min (max quota 0).toNat 65536 := rfl
              rw [e2] at h2
              omega
            go_wp2_with fail
            go_loopw [14] (fun i wr => ∃ j : Nat, j ≤ ns.length ∧ i = .int .i64 j ∧ Below wy.heap.size wy wr) (fun i _ => ns.length - (intOf i).toNat)
            case atStart => exact ⟨0, Nat.zero_le _, rfl, Below.refl _ _⟩
            case round =>
              obtain ⟨j, hj, rfl, hbr⟩ := hrel
              have HB := Lib.hid hbr
              clear hbr
              by_cases hlt : j < ns.length
              · have hji : ((j : Nat) : Int) < ns.length := by omega
                obtain ⟨f, hln, hf65, hrd⟩ := HTELL.out j hlt
                obtain ⟨adx, hax, hcx0⟩ := (Cells.below HX.out HB.out) (by rw [List.length_map]; omega)
                have hcx := hcx0 j (.string ns[j]) (by simp [hlt])
                subst hax
                obtain ⟨nm, hnm⟩ : ∃ nm, ns[j] = nm := ⟨_, rfl⟩
                simp only [hnm] at hcx hln hrd
                have HRD := Lib.hid hrd
                have hl := (HT.out.below HB.out).d_.len nm
                rw [hln] at hl
                clear hrd hcx0 hnm hln
                go_wp2_with fail
                refine hl.mono ?_
                rintro e wl ⟨rfl, hwl⟩
                subst hwl
                clear hl
                obtain ⟨wo, rfl⟩ : ∃ x, x = wr := ⟨_, rfl⟩
                go_wp2_with fail
                go_loopw [17] (fun k wr => ∃ i : Nat, i ≤ f.now.length ∧ k = .int .i64 i ∧ Below wo.heap.size wo wr) (fun k _ => f.now.length - (intOf k).toNat)
                case atStart => exact ⟨0, Nat.zero_le _, rfl, Below.refl _ _⟩
                case round =>
                  obtain ⟨i, hi, rfl, hbq⟩ := hrel
                  have HBQ := Lib.hid (HB.out.trans (hbq.mono HB.out.size))
                  have HBO := Lib.hid hbq
                  have hcq := cell_below hbq hcx
                  clear hbq
                  by_cases hil : i < f.now.length
                  · have hii : ((i : Nat) : Int) < f.now.length := by omega
                    obtain ⟨hr1, hr2⟩ := HRD.out i hil
                    have g1 := (HT.out.below HBQ.out).d_.read nm (i : Int)
                    rw [hr1] at g1
                    have HR2 := Lib.hid hr2
                    clear hr1 hr2
                    go_wp2_with fail
                    refine g1.mono ?_
                    rintro e w8 ⟨v, rfl, hv⟩
                    have hb8 := hv.below
                    obtain ⟨Ar, nr, cr, rfl, hl1, hc1, -, -⟩ := hv.bytes
                    have hcq2 := cell_below hb8 hcq
                    have g2 := ((HT.out.below HBQ.out).below hb8).a_.read nm (i : Int)
                    rw [HR2.out] at g2
                    have HC1 := Lib.hid hc1
                    have HL1 := Lib.hid hl1
                    have HB8 := Lib.hid hb8
                    clear g1 hv hb8 hc1 hl1
                    go_wp2_with fail
                    refine g2.mono ?_
                    rintro e w9 ⟨v, rfl, hv2⟩
                    have hb9 := hv2.below
                    obtain ⟨Ar2, nr2, cr2, rfl, hl2, hc2, -, -⟩ := hv2.bytes
                    have hcv1 := conv_bytes (Cells.below HC1.out hb9) nr cr HL1.out
                    have hcv2 := conv_bytes hc2 nr2 cr2 hl2
                    obtain ⟨bs, hbs⟩ : ∃ bs : ByteArray, (⟨(f.now[i]).b.toArray⟩ : ByteArray) = bs := ⟨_, rfl⟩
                    rw [show (⟨(pgO (0, some f.now[i]).2).toArray⟩ : ByteArray) = bs from hbs] at hcv1 hcv2
                    have HB9 := Lib.hid (HBO.out.trans ((HB8.out.trans (hb9.mono HB8.out.size)).mono HBO.out.size))
                    clear g2 hv2 hb9 hc2 hl2 hbs
                    go_wp2_with fail
                    go_roundw
                    case rel => exact ⟨i + 1, hil, by go_num, HB9.out⟩
                    case measure => simp [intOf]; omega
                  · have hii : ¬ ((i : Nat) : Int) < f.now.length := by omega
                    go_wp2_with fail
                    go_roundw
                    case rel => exact ⟨j + 1, hlt, by go_num, HBQ.out⟩
                    case measure => simp [intOf]; omega
              · have hji : ¬ ((j : Nat) : Int) < ns.length := by omega
                have hus := (HT.out.below HB.out).d_.used
                go_wp2_with fail
                refine hus.mono ?_
                rintro e wd ⟨rfl, hwd⟩
                subst hwd
                clear hus
                have HBF := Lib.hid (HT.out.bel.trans (HB.out.mono HT.out.bel.size))
                go_wp2_with fail
                refine (works_any _).mono ?_
                rintro e wz ⟨rfl, hbz⟩
                have HBZ := Lib.hid hbz
                clear hbz
                go_wp2_with fail
                go_ret
                exact ⟨rfl, HBF.out.trans (HBZ.out.mono HBF.out.size)⟩
end Go.Proofs.Ytikbphafpmdpeaa
