/- What holds of a disk at any time stays: plain. -/
import Derived.Test.YtladknjmoahdoaaFr
set_option linter.all false
namespace Go.Proofs.Ytladknjmoahdoaa

theorem sumN_perm {l r : List (ByteArray × FileT)} (h : l.Perm r) : sumN l = sumN r := (h.map _).sum_nat
theorem sumN_cons (p : ByteArray × FileT) (l : List (ByteArray × FileT)) : sumN (p :: l) = p.2.now.length + sumN l := by simp [sumN]
theorem sumN_get {l : List (ByteArray × FileT)} {k : ByteArray} {f : FileT} (h : mget l k = some f) : sumN l = f.now.length + sumN (mdel l k) := by rw [sumN_perm (perm_get h), sumN_cons]
theorem sumN_set (l : List (ByteArray × FileT)) (k : ByteArray) (f : FileT) : sumN (mset l k f) = f.now.length + sumN (mdel l k) := by rw [sumN_perm (perm_set l k f), sumN_cons]
/-- What holds of the files. -/
structure InvF (l : List (ByteArray × FileT)) (no : Nat) : Prop where
  nodup : (l.map Prod.fst).Nodup
  names : ∀ p ∈ l, namedB p.1 = true
  files : ∀ p ∈ l, p.2.Ok no
  apart : ((l.flatMap fun p => p.2.opens).map WrT.no).Nodup
theorem Inv.f {d : DiskT} (h : Inv d) : InvF d.files d.no := ⟨h.nodup, h.names, h.files, h.apart⟩
theorem InvF.perm {l r : List (ByteArray × FileT)} {no : Nat} (h : InvF l no) (hp : l.Perm r) : InvF r no :=
  ⟨(hp.map _).nodup_iff.1 h.nodup, fun p hq => h.names p (hp.mem_iff.2 hq), fun p hq => h.files p (hp.mem_iff.2 hq), ((hp.flatMap_right _).map _).nodup_iff.1 h.apart⟩
theorem InvF.tail {p : ByteArray × FileT} {l : List (ByteArray × FileT)} {no : Nat} (h : InvF (p :: l) no) : InvF l no := by
  refine ⟨(List.nodup_cons.1 (show (p.1 :: l.map Prod.fst).Nodup from h.nodup)).2, fun q hq => h.names q (List.mem_cons_of_mem _ hq), fun q hq => h.files q (List.mem_cons_of_mem _ hq), ?_⟩
  have := h.apart
  rw [List.flatMap_cons, List.map_append, List.nodup_append] at this
  exact this.2.1
theorem InvF.cons {k : ByteArray} {f : FileT} {l : List (ByteArray × FileT)} {no : Nat} (h : InvF l no) (hk : k ∉ l.map Prod.fst) (hn : namedB k = true) (hf : f.Ok no) (ha : ∀ x ∈ f.opens, ∀ p ∈ l, ∀ y ∈ p.2.opens, x.no ≠ y.no) : InvF ((k, f) :: l) no := by
  refine ⟨by rw [List.map_cons, List.nodup_cons]; exact ⟨hk, h.nodup⟩, ?_, ?_, ?_⟩
  · intro q hq
    rcases List.mem_cons.1 hq with rfl | hq
    · exact hn
    · exact h.names q hq
  · intro q hq
    rcases List.mem_cons.1 hq with rfl | hq
    · exact hf
    · exact h.files q hq
  · rw [List.flatMap_cons, List.map_append, List.nodup_append]
    refine ⟨hf.rise.imp fun h => Nat.ne_of_lt h, h.apart, ?_⟩
    intro a ha1 b hb1 e
    subst e
    obtain ⟨x, hx, rfl⟩ := List.mem_map.1 ha1
    obtain ⟨y, hy, hxy⟩ := List.mem_map.1 hb1
    obtain ⟨p, hp, hy⟩ := List.mem_flatMap.1 hy
    exact ha x hx p hp y hy hxy.symm
theorem FileT.Ok.mono {f : FileT} {no no' : Nat} (h : f.Ok no) (hle : no ≤ no') : f.Ok no' := ⟨h.now, h.rise, fun w hw => Nat.lt_of_lt_of_le (h.lt w hw) hle⟩
theorem InvF.mono {l : List (ByteArray × FileT)} {no no' : Nat} (h : InvF l no) (hle : no ≤ no') : InvF l no' := ⟨h.nodup, h.names, fun p hp => (h.files p hp).mono hle, h.apart⟩
theorem Inv.of {d : DiskT} (h : InvF d.files d.no) (count : d.files.length ≤ 256) (sum : d.used = sumN d.files) (within : d.used ≤ d.quota) (quota : d.quota ≤ 65536) (no : d.no ≤ d.steps)
    (set : ∀ i k, d.set = some (i, k) → i < 9223372036854775808 ∧ k < 18446744073709551616) (off : d.off = true → d.set.isSome = true) : Inv d := ⟨h.nodup, h.names, count, sum, within, quota, h.files, h.apart, no, set, off⟩
theorem Inv.get_le {d : DiskT} (h : Inv d) {k : ByteArray} {f : FileT} (hg : mget d.files k = some f) : f.now.length ≤ d.used := by
  rw [h.sum, sumN_get hg]; omega
theorem Inv.ok {d : DiskT} (h : Inv d) {k : ByteArray} {f : FileT} (hg : mget d.files k = some f) : f.Ok d.no := h.files (k, f) (mget_mem hg)
theorem nodup_len : ∀ (n : Nat) (l : List Nat), l.Nodup → (∀ x ∈ l, x < n) → l.length ≤ n
  | 0, l, _, h => by
    cases l with
    | nil => exact Nat.le_refl _
    | cons x r => have := h x (List.mem_cons_self ..); omega
  | n + 1, l, hn, h => by
    have h1 := nodup_len n (l.erase n) (hn.sublist List.erase_sublist) fun x hx => by
      have h2 := h x (List.mem_of_mem_erase hx)
      have h3 : x ≠ n := fun e => by
        subst e
        exact (List.Nodup.not_mem_erase hn) hx
      omega
    have h2 : l.length ≤ (l.erase n).length + 1 := by
      rw [List.length_erase]
      split <;> omega
    omega
theorem Inv.opens_len {d : DiskT} (h : Inv d) : (opensD d).length ≤ d.no := by
  have h1 : ((opensD d).map WrT.no).length ≤ d.no := by
    refine nodup_len d.no _ h.apart fun x hx => ?_
    obtain ⟨y, hy, rfl⟩ := List.mem_map.1 hx
    obtain ⟨p, hp, hy⟩ := List.mem_flatMap.1 hy
    exact (h.files p hp).lt y hy
  simpa using h1
theorem Inv.file_opens {d : DiskT} (h : Inv d) {k : ByteArray} {f : FileT} (hg : mget d.files k = some f) : f.opens.length ≤ d.no := by
  refine Nat.le_trans ?_ h.opens_len
  have := ((perm_get hg).flatMap_right fun p => p.2.opens).length_eq
  unfold opensD
  rw [this, List.flatMap_cons, List.length_append]
  exact Nat.le_add_right _ _
theorem Inv.settled_le {d : DiskT} (h : Inv d) {k : ByteArray} {f : FileT} (hg : mget d.files k = some f) : f.settled.length ≤ d.used := by
  have h1 := laidP_ge f.opens f.settled
  rw [← (h.ok hg).now] at h1
  exact Nat.le_trans h1 (h.get_le hg)
theorem Inv.stepped {d : DiskT} (h : Inv d) : Inv (stepD d).2 := by
  unfold stepD
  split
  · exact ⟨h.nodup, h.names, h.count, h.sum, h.within, h.quota, h.files, h.apart, Nat.le_succ_of_le h.no, h.set, h.off⟩
  · rename_i k hs
    exact ⟨h.nodup, h.names, h.count, h.sum, h.within, h.quota, h.files, h.apart, h.no, h.set, fun _ => by show d.set.isSome = true; rw [hs]; rfl⟩
  · rename_i i k hs
    refine ⟨h.nodup, h.names, h.count, h.sum, h.within, h.quota, h.files, h.apart, Nat.le_succ_of_le h.no, ?_, fun _ => rfl⟩
    intro i' k' e
    injection e with e
    injection e with e1 e2
    have := h.set (i + 1) k hs
    omega
theorem stepD_files (d : DiskT) : (stepD d).2.files = d.files ∧ (stepD d).2.quota = d.quota ∧ (stepD d).2.used = d.used ∧ (stepD d).2.no = d.no := by
  unfold stepD
  split <;> exact ⟨rfl, rfl, rfl, rfl⟩
theorem stepD_off {d : DiskT} (h : (stepD d).1 = true) : (stepD d).2.off = d.off := by
  unfold stepD at h ⊢
  split at h <;> first | rfl | cases h
theorem file0_ok (no : Nat) : file0.Ok no := ⟨rfl, List.Pairwise.nil, fun _ h => by cases h⟩
theorem mget_keys {α : Type} {l : List (ByteArray × α)} {k : ByteArray} (h : mget l k = none) : k ∉ l.map Prod.fst := fun hk => by
  have := mget_isSome.2 hk
  rw [h] at this; cases this
theorem Inv.create {d : DiskT} (h : Inv d) {name : ByteArray} (hn : namedB name = true) (hg : mget d.files name = none) (hc : d.files.length < 256) : Inv { d with files := mset d.files name file0 } := by
  have hp := perm_set d.files name file0
  rw [mdel_of_none hg] at hp
  refine Inv.of ((InvF.cons h.f (mget_keys hg) hn (file0_ok _) (fun x hx => by cases hx)).perm hp.symm) ?_ ?_ h.within h.quota h.no h.set h.off
  · have := hp.length_eq
    simp only [List.length_cons] at this
    show (mset d.files name file0).length ≤ 256
    omega
  · show d.used = sumN (mset d.files name file0)
    rw [sumN_set, mdel_of_none hg, h.sum]
    simp [file0]
theorem Inv.del {d : DiskT} (h : Inv d) {name : ByteArray} {f : FileT} (hg : mget d.files name = some f) : Inv { d with used := d.used - f.now.length, files := mdel d.files name } := by
  have hp := perm_get hg
  refine Inv.of (h.f.perm hp).tail ?_ ?_ (Nat.le_trans (Nat.sub_le ..) h.within) h.quota h.no h.set h.off
  · have := hp.length_eq
    have hc := h.count
    simp only [List.length_cons] at this
    show (mdel d.files name).length ≤ 256
    omega
  · show d.used - f.now.length = sumN (mdel d.files name)
    rw [h.sum, sumN_get hg]; omega
theorem Inv.gone {d : DiskT} (h : Inv d) (name : ByteArray) : Inv (goneD d name) := by
  unfold goneD
  cases hg : mget d.files name with
  | none => exact h
  | some f => exact h.del hg
theorem goneD_get {d : DiskT} {name k : ByteArray} (hk : k ≠ name) : mget (goneD d name).files k = mget d.files k := by
  unfold goneD
  split
  · rfl
  · exact mget_del_other _ hk
theorem goneD_none {d : DiskT} (h : Inv d) (name : ByteArray) : mget (goneD d name).files name = none := by
  unfold goneD
  split
  · assumption
  · exact mget_del_same h.nodup name
/-- A file under another name, which no file has. -/
theorem Inv.moved {d : DiskT} (h : Inv d) {src dst : ByteArray} {f : FileT} (hg : mget d.files src = some f) (hd : namedB dst = true) (hn : mget d.files dst = none) : Inv { d with files := mset (mdel d.files src) dst f } := by
  have hp := perm_get hg
  have hF := h.f.perm hp
  have hne : dst ≠ src := fun e => by rw [e, hg] at hn; cases hn
  have hn2 : mget (mdel d.files src) dst = none := by rw [mget_del_other _ hne]; exact hn
  have hp2 := perm_set (mdel d.files src) dst f
  rw [mdel_of_none hn2] at hp2
  have hap := hF.apart
  rw [List.flatMap_cons, List.map_append, List.nodup_append] at hap
  refine Inv.of ((InvF.cons hF.tail (mget_keys hn2) hd (hF.files _ (List.mem_cons_self ..)) ?_).perm hp2.symm) ?_ ?_ h.within h.quota h.no h.set h.off
  · intro x hx p hp3 y hy e
    exact hap.2.2 x.no (List.mem_map.2 ⟨x, hx, rfl⟩) y.no (List.mem_map.2 ⟨y, List.mem_flatMap.2 ⟨p, hp3, hy⟩, rfl⟩) e
  · have h1 := hp.length_eq
    have h2 := hp2.length_eq
    have hc := h.count
    simp only [List.length_cons] at h1 h2
    show (mset (mdel d.files src) dst f).length ≤ 256
    omega
  · show d.used = sumN (mset (mdel d.files src) dst f)
    rw [sumN_set, mdel_of_none hn2, h.sum, sumN_get hg]
/-- Another file under a name. -/
theorem Inv.put {d : DiskT} (h : Inv d) {name : ByteArray} {f g : FileT} (hg : mget d.files name = some f) {no used : Nat} (hno : d.no ≤ no) (hns : no ≤ d.steps) (hok : g.Ok no) (hop : ∀ x ∈ g.opens, x ∈ f.opens ∨ d.no ≤ x.no) (hu : used + f.now.length = d.used + g.now.length) (hq : used ≤ d.quota) :
    Inv { d with files := mset d.files name g, no := no, used := used } := by
  have hp := perm_get hg
  have hF := h.f.perm hp
  have hp2 := perm_set d.files name g
  have hap := hF.apart
  rw [List.flatMap_cons, List.map_append, List.nodup_append] at hap
  have hnm := (List.nodup_cons.1 (show (name :: (mdel d.files name).map Prod.fst).Nodup from hF.nodup)).1
  refine Inv.of ((InvF.cons (hF.tail.mono hno) hnm (hF.names _ (List.mem_cons_self ..)) hok ?_).perm hp2.symm) ?_ ?_ hq h.quota hns h.set h.off
  · intro x hx p hp3 y hy e
    rcases hop x hx with h1 | h1
    · exact hap.2.2 x.no (List.mem_map.2 ⟨x, h1, rfl⟩) y.no (List.mem_map.2 ⟨y, List.mem_flatMap.2 ⟨p, hp3, hy⟩, rfl⟩) e
    · have := (hF.files p (List.mem_cons_of_mem _ hp3)).lt y hy
      omega
  · have h1 := hp.length_eq
    have h2 := hp2.length_eq
    have hc := h.count
    simp only [List.length_cons] at h1 h2
    show (mset d.files name g).length ≤ 256
    omega
  · show used = sumN (mset d.files name g)
    have := h.sum
    rw [sumN_get hg] at this
    rw [sumN_set]
    omega
theorem Inv.write {d : DiskT} (h : Inv d) {name : ByteArray} {f : FileT} (hg : mget d.files name = some f) {k : Nat} (p : PageT) (hk : k ≤ f.now.length) (hq : k = f.now.length → d.used < d.quota) (hs : d.no < d.steps) :
    Inv { d with files := mset d.files name ⟨layP f.now k p, f.settled, f.opens ++ [⟨d.no, k, p⟩]⟩, no := d.no + 1, used := if k = f.now.length then d.used + 1 else d.used } := by
  have hok := h.ok hg
  refine h.put hg (by omega) (by omega) ⟨?_, ?_, ?_⟩ ?_ ?_ ?_
  · show layP f.now k p = laidP f.settled (f.opens ++ [⟨d.no, k, p⟩])
    rw [laidP_snoc, ← hok.now]
  · rw [List.map_append, List.pairwise_append]
    refine ⟨hok.rise, by simp, fun a ha b hb => ?_⟩
    simp at hb
    obtain ⟨x, hx, rfl⟩ := List.mem_map.1 ha
    rw [hb]
    exact hok.lt x hx
  · intro w hw
    rcases List.mem_append.1 hw with hw | hw
    · exact Nat.lt_succ_of_lt (hok.lt w hw)
    · simp at hw; subst hw; exact Nat.lt_succ_self _
  · intro x hx
    rcases List.mem_append.1 hx with hx | hx
    · exact .inl hx
    · simp at hx; subst hx; exact .inr (Nat.le_refl _)
  · show _ = d.used + (layP f.now k p).length
    rw [layP_len]
    split <;> omega
  · split
    · exact hq (by assumption)
    · exact h.within
theorem Inv.sync {d : DiskT} (h : Inv d) {name : ByteArray} {f : FileT} (hg : mget d.files name = some f) : Inv { d with files := mset d.files name ⟨f.now, f.now, []⟩ } :=
  h.put (no := d.no) (used := d.used) hg (Nat.le_refl _) h.no ⟨rfl, List.Pairwise.nil, fun _ hw => by cases hw⟩ (fun _ hx => by cases hx) rfl h.within
end Go.Proofs.Ytladknjmoahdoaa
