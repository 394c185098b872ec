/- On: which open writes stay, by their rank; what its second walk leaves. Plain. -/
import Derived.Test.YtladknjmoahdoaaOn1
set_option linter.all false
namespace Go.Proofs.Ytladknjmoahdoaa
open Go.RowKit

theorem rankW_perm {l r : List WrT} (h : l.Perm r) (n : Nat) : rankW l n = rankW r n := (h.filter _).length_eq
theorem rank_at {l : List WrT} (h : l.Pairwise (fun a b => a.no < b.no)) {i : Nat} {r : WrT} (hi : l[i]? = some r) : rankW l r.no = i := by
  induction l generalizing i with
  | nil => simp at hi
  | cons a l ih =>
    rw [List.pairwise_cons] at h
    cases i with
    | zero =>
      simp at hi
      subst hi
      unfold rankW
      rw [List.filter_cons_of_neg (by simp), List.filter_eq_nil_iff.2 (fun x hx => by have := h.1 x hx; simp; omega)]
      rfl
    | succ i =>
      rw [List.getElem?_cons_succ] at hi
      have h1 := h.1 r (List.mem_of_getElem? hi)
      have h2 := ih h.2 hi
      unfold rankW at h2 ⊢
      rw [List.filter_cons_of_pos (by simpa using h1), List.length_cons, h2]
theorem rank_lt {l : List WrT} (h : l.Pairwise (fun a b => a.no < b.no)) {a b : WrT} (ha : a ∈ l) (hb : b ∈ l) : rankW l a.no < rankW l b.no ↔ a.no < b.no := by
  obtain ⟨i, hi⟩ := List.getElem?_of_mem ha
  obtain ⟨j, hj⟩ := List.getElem?_of_mem hb
  rw [rank_at h hi, rank_at h hj]
  obtain ⟨hi1, hi2⟩ := List.getElem?_eq_some_iff.1 hi
  obtain ⟨hj1, hj2⟩ := List.getElem?_eq_some_iff.1 hj
  have hp := List.pairwise_iff_getElem.1 h
  constructor
  · intro hij
    have := hp i j hi1 hj1 hij
    rwa [hi2, hj2] at this
  · intro hab
    refine Nat.lt_of_not_le fun hji => ?_
    rcases Nat.lt_or_eq_of_le hji with h1 | h1
    · have := hp j i hj1 hi1 h1
      rw [hi2, hj2] at this
      omega
    · subst h1
      rw [hi2] at hj2
      rw [hj2] at hab
      omega
/-- Of a file's open writes: those of the first i that stay. -/
def keptW (all : List WrT) (keep i : Nat) (f : FileT) : List WrT := f.opens.filter fun r => bitB keep (rankW all r.no) && decide (rankW all r.no < i)
def partF (all : List WrT) (keep i : Nat) (f : FileT) : FileT := ⟨laidP f.settled (keptW all keep i f), f.settled, []⟩
theorem partF_zero (all : List WrT) (keep : Nat) (f : FileT) : partF all keep 0 f = resetF f := by
  unfold partF keptW
  rw [List.filter_eq_nil_iff.2 (fun x _ => by simp)]
  rfl
theorem partF_last {all : List WrT} {keep n : Nat} {f : FileT} (h : ∀ r ∈ f.opens, rankW all r.no < n) : partF all keep n f = ⟨stayF all keep f, f.settled, []⟩ := by
  unfold partF keptW stayF
  congr 2
  refine List.filter_congr fun r hr => ?_
  simp [h r hr]
theorem keptW_skip {all : List WrT} {keep i : Nat} {f : FileT} (h : ∀ r ∈ f.opens, rankW all r.no = i → bitB keep i = false) : keptW all keep (i + 1) f = keptW all keep i f := by
  unfold keptW
  refine List.filter_congr fun r hr => ?_
  by_cases e : rankW all r.no = i
  · have := h r hr e
    rw [e, this]; simp
  · have : (rankW all r.no < i + 1) ↔ (rankW all r.no < i) := by omega
    simp [this]
theorem filter_step {ρ : WrT → Nat} {g : Nat → Bool} {l : List WrT} (h : l.Pairwise (fun a b => ρ a < ρ b)) {r : WrT} (hr : r ∈ l) (hg : g (ρ r) = true) : l.filter (fun x => g (ρ x) && decide (ρ x < ρ r + 1)) = l.filter (fun x => g (ρ x) && decide (ρ x < ρ r)) ++ [r] := by
  induction l with
  | nil => cases hr
  | cons a l ih =>
    rw [List.pairwise_cons] at h
    rcases List.mem_cons.1 hr with e | hr
    · subst e
      have e1 : ∀ n, n ≤ ρ r + 1 → l.filter (fun x => g (ρ x) && decide (ρ x < n)) = [] := fun n hn => List.filter_eq_nil_iff.2 fun x hx => by have := h.1 x hx; simp; intro _; omega
      rw [List.filter_cons_of_pos (by simp [hg]), List.filter_cons_of_neg (by simp), e1 _ (Nat.le_refl _), e1 _ (Nat.le_succ _)]
      rfl
    · have h1 := h.1 r hr
      have h2 := ih h.2 hr
      by_cases hga : g (ρ a) = true
      · rw [List.filter_cons_of_pos (by simp [hga]; omega), List.filter_cons_of_pos (by simp [hga]; omega), h2]
        rfl
      · rw [List.filter_cons_of_neg (by simp [hga]), List.filter_cons_of_neg (by simp [hga]), h2]
theorem keptW_lay {all : List WrT} {keep i : Nat} {f : FileT} (h : f.opens.Pairwise (fun a b => rankW all a.no < rankW all b.no)) {r : WrT} (hr : r ∈ f.opens) (hi : rankW all r.no = i) (hb : bitB keep i = true) : keptW all keep (i + 1) f = keptW all keep i f ++ [r] := by
  subst hi
  exact filter_step (ρ := fun x => rankW all x.no) (g := fun n => bitB keep n) h hr hb
theorem place_lt : ∀ (ws : List WrT) (l : List PageT), ∀ r ∈ ws, r.place < (laidP l ws).length
  | [], _, _, h => by cases h
  | a :: ws, l, r, h => by
    show _ < (laidP (layP l a.place a.page) ws).length
    rcases List.mem_cons.1 h with e | h
    · subst e
      have := laidP_ge ws (layP l r.place r.page)
      rw [layP_len] at this
      omega
    · exact place_lt ws _ r h
/-- Two files' open writes have other numbers. -/
theorem Inv.two {d : DiskT} (h : Inv d) {k k' : ByteArray} {f f' : FileT} (hk : mget d.files k = some f) (hk' : mget d.files k' = some f') (hne : k' ≠ k) : ∀ r ∈ f.opens, ∀ r' ∈ f'.opens, r.no ≠ r'.no := by
  intro r hr r' hr' e
  have h1 := (h.f.perm (perm_get hk)).apart
  rw [List.flatMap_cons, List.map_append, List.nodup_append] at h1
  refine h1.2.2 r.no (List.mem_map.2 ⟨r, hr, rfl⟩) r'.no (List.mem_map.2 ⟨r', List.mem_flatMap.2 ⟨(k', f'), mget_mem ?_, hr'⟩, rfl⟩) e
  rw [mget_del_other _ hne]; exact hk'
theorem opens_mem {d : DiskT} {k : ByteArray} {f : FileT} (hk : mget d.files k = some f) : ∀ r ∈ f.opens, r ∈ opensD d := fun r hr => List.mem_flatMap.2 ⟨_, mget_mem hk, hr⟩
/-- The disk while the open writes that stay are laid. -/
structure OnB (w3 : World) (p m : Nat) (sb : Option Nat) (es es1 : List (ByteArray × FileM)) (d : DiskT) (keep i : Nat) (es2 : List (ByteArray × FileM)) (d2 : DiskT) (wr : World) : Prop where
  op : OpL w3 p m sb es1 d2 sb es2 wr
  eq : d2 = { d with files := d2.files }
  keys : d2.files.map Prod.fst = d.files.map Prod.fst
  get : ∀ k, mget d2.files k = (mget d.files k).map (partF (opensD d) keep i)
  bls : menc FileM.bl es2 = menc FileM.bl es
section
variable {w3 wr wr' : World} {p m kp i : Nat} {sb : Option Nat} {es es1 es2 : List (ByteArray × FileM)} {d d2 : DiskT} {ls : List WrT}
theorem OnB.start (h : DiskAt w3 p m sb es1 { d with files := menc resetF d.files }) (hb : menc FileM.bl es1 = menc FileM.bl es) : OnB w3 p m sb es es1 d kp 0 es1 { d with files := menc resetF d.files } w3 := by
  refine ⟨OpL.here h, rfl, menc_keys .., fun k => ?_, hb⟩
  show mget (menc resetF d.files) k = _
  rw [mget_menc]
  cases mget d.files k with
  | none => rfl
  | some f => show some _ = some _; rw [partF_zero]
theorem OnB.keep (h : OnB w3 p m sb es es1 d kp i es2 d2 wr) (hb : Below wr.heap.size wr wr') : OnB w3 p m sb es es1 d kp i es2 d2 wr' := ⟨h.op.below hb, h.eq, h.keys, h.get, h.bls⟩
theorem OnB.skip (h : OnB w3 p m sb es es1 d kp i es2 d2 wr) (hb : bitB kp i = false) : OnB w3 p m sb es es1 d kp (i + 1) es2 d2 wr := by
  refine ⟨h.op, h.eq, h.keys, fun k => ?_, h.bls⟩
  rw [h.get]
  congr 1
  funext f
  unfold partF
  rw [keptW_skip fun _ _ _ => hb]
theorem OnB.lay {k : ByteArray} {f : FileT} {x : FileM} {vn : Value} {r : WrT} (h : OnB w3 p m sb es es1 d kp i es2 d2 wr) (hi : Inv d) (hp : ls.Perm (opensD d)) (hs : ls.Pairwise (fun a b => a.no < b.no)) (hr : ls[i]? = some r) (hb : bitB kp i = true) (hk : mget d.files k = some f) (hrf : r ∈ f.opens) (hx : mget es2 k = some x)
    (hL : LayP wr x.bl x.vn x.vs x.vo (layP x.f.now r.place r.page) vn wr') : OnB w3 p m sb es es1 d kp (i + 1) (mset es2 k ⟨x.bl, vn, x.vs, x.vo, ⟨layP x.f.now r.place r.page, x.f.settled, x.f.opens⟩⟩) { d2 with files := mset d2.files k ⟨layP x.f.now r.place r.page, x.f.settled, x.f.opens⟩ } wr' := by
  have hO := put_lay h.op.at_ hx (by rw [layP_len]; omega) hL
  have hgx : mget d2.files k = some x.f := by rw [h.op.at_.get, hx]; rfl
  have hrk : rankW (opensD d) r.no = i := by rw [← rankW_perm hp]; exact rank_at hs hr
  have hxf : x.f = partF (opensD d) kp i f := by
    have := h.get k
    rw [hgx, hk] at this
    simpa using this
  have hnd := h.op.at_.map.nodup
  rw [menc_keys] at hnd
  refine ⟨h.op.trans hO, ?_, ?_, fun q => ?_, ?_⟩
  · have := h.eq
    show ({ d2 with files := _ } : DiskT) = _
    rw [this]
  · show (mset d2.files k _).map Prod.fst = _
    have := mset_keys d2.files k (⟨layP x.f.now r.place r.page, x.f.settled, x.f.opens⟩ : FileT)
    rw [if_pos (by rw [hgx]; rfl)] at this
    rw [← h.keys]
    exact this
  · show mget (mset d2.files k _) q = _
    by_cases e : q = k
    · subst e
      rw [mget_mset_same, hk]
      show some _ = some _
      congr 1
      have hrise : f.opens.Pairwise (fun a b => rankW (opensD d) a.no < rankW (opensD d) b.no) := by
        have h1 := (hi.ok hk).rise
        rw [List.pairwise_map] at h1
        refine h1.imp_of_mem fun {a b} ha hb hab => ?_
        rw [← rankW_perm hp, ← rankW_perm hp]
        exact (rank_lt hs (hp.mem_iff.2 (opens_mem hk a ha)) (hp.mem_iff.2 (opens_mem hk b hb))).2 hab
      unfold partF
      rw [keptW_lay hrise hrf hrk hb, laidP_snoc, hxf]
      rfl
    · rw [mget_mset_other _ _ e, h.get]
      cases hq : mget d.files q with
      | none => rfl
      | some f' =>
        show some _ = some _
        congr 1
        unfold partF
        rw [keptW_skip fun r' hr' e2 => ?_]
        exfalso
        have hm1 : r' ∈ ls := hp.mem_iff.2 (opens_mem hq r' hr')
        have hm2 : r ∈ ls := List.mem_of_getElem? hr
        rw [← rankW_perm hp] at e2 hrk
        have h1 := (rank_lt hs hm1 hm2)
        have h2 := (rank_lt hs hm2 hm1)
        exact hi.two hk hq e r hrf r' hr' (by omega)
  · rw [← h.bls]
    refine eq_of_get (by rw [menc_keys]; exact mset_nodup hnd k _) ?_ fun q => ?_
    · rw [menc_keys, menc_keys]
      have := mset_keys es2 k (⟨x.bl, vn, x.vs, x.vo, ⟨layP x.f.now r.place r.page, x.f.settled, x.f.opens⟩⟩ : FileM)
      rw [if_pos (by rw [hx]; rfl)] at this
      exact this
    · rw [mget_menc, mget_menc]
      by_cases e : q = k
      · subst e; rw [mget_mset_same, hx]; rfl
      · rw [mget_mset_other _ _ e]
/-- A file's pages are not above what they were. -/
theorem OnB.pages {k : ByteArray} {x : FileM} (h : OnB w3 p m sb es es1 d kp i es2 d2 wr) (hi : Inv d) (hx : mget es2 k = some x) : x.f.now.length ≤ 65536 := by
  have hgx : mget d2.files k = some x.f := by rw [h.op.at_.get, hx]; rfl
  have h1 := h.get k
  rw [hgx] at h1
  cases hg : mget d.files k with
  | none => rw [hg] at h1; cases h1
  | some f =>
    rw [hg] at h1
    have h2 : x.f = partF (opensD d) kp i f := by simpa using h1
    rw [h2]
    have h3 := laidP_sub (ws := f.opens) (vs := keptW (opensD d) kp i f) List.filter_sublist (l := f.settled) (m := f.settled) (Nat.le_refl _)
    rw [← (hi.ok hg).now] at h3
    have h4 := hi.get_le hg
    have h5 := hi.within
    have h6 := hi.quota
    show (laidP f.settled (keptW (opensD d) kp i f)).length ≤ _
    omega
end
end Go.Proofs.Ytladknjmoahdoaa
