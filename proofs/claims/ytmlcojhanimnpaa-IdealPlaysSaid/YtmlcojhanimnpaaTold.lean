/- What is told of accounts and channels (plain). -/
import Derived.Test.YtmlcojhanimnpaaSorted
import Derived.Test.YtmlcojhanimnpaaIdealT
namespace Go.Proofs.Ytmlcojhanimnpaa

/-- The accounts as they are told. -/
def accs (s : Led) : List (ByteArray × Int) := (skeys s.coins).map fun k => (k, (mget s.coins k).getD 0)
theorem accs_len (s : Led) : (accs s).length = s.coins.length := by unfold accs; rw [List.length_map, skeys_len]
theorem accs_at (s : Led) {k : Nat} (hk : k < (accs s).length) (hk2 : k < (skeys s.coins).length) : (accs s)[k] = ((skeys s.coins)[k], (mget s.coins (skeys s.coins)[k]).getD 0) := List.getElem_map ..
theorem accs_keys (s : Led) : (accs s).map (·.1) = skeys s.coins := by
  unfold accs
  rw [List.map_map]
  exact List.map_id'' (fun _ => rfl) _
theorem accs_some (s : Led) {p : ByteArray × Int} (h : p ∈ accs s) : mget s.coins p.1 = some p.2 := by
  unfold accs at h
  obtain ⟨k, hk, rfl⟩ := List.mem_map.1 h
  have hm : k ∈ s.coins.map (·.1) := (skeys_perm s.coins).mem_iff.1 hk
  have h1 := (mget_isSome (l := s.coins) (k := k)).2 hm
  exact some_getD h1 0
theorem ksum_keys {α β : Type} (g : ByteArray → Int) {l : List (ByteArray × α)} {r : List (ByteArray × β)} (h : (l.map (·.1)).Perm (r.map (·.1))) : ksum g l = ksum g r := by
  have h1 := perm_sum (h.map g)
  rw [List.map_map, List.map_map] at h1
  exact h1
theorem ksum_append {α : Type} (g : ByteArray → Int) (l r : List (ByteArray × α)) : ksum g (l ++ r) = ksum g l + ksum g r := by simp [ksum]
theorem ksum_nonneg {α : Type} (g : ByteArray → Int) (h : ∀ q, 0 ≤ g q) : ∀ l : List (ByteArray × α), 0 ≤ ksum g l
  | [] => Int.le_refl _
  | p :: r => by rw [ksum_cons]; have := h p.1; have := ksum_nonneg g h r; omega
theorem ksum_take {α : Type} (g : ByteArray → Int) (h : ∀ q, 0 ≤ g q) (l : List (ByteArray × α)) (k : Nat) : 0 ≤ ksum g (l.take k) ∧ ksum g (l.take k) ≤ ksum g l := by
  have h1 := ksum_append g (l.take k) (l.drop k)
  rw [List.take_append_drop] at h1
  have h2 := ksum_nonneg g h (l.take k)
  have h3 := ksum_nonneg g h (l.drop k)
  omega
theorem ksum_step {α : Type} (g : ByteArray → Int) (l : List (ByteArray × α)) {k : Nat} (hk : k < l.length) : ksum g (l.take (k + 1)) = ksum g (l.take k) + g l[k].1 := by
  rw [List.take_succ_eq_append_getElem hk, ksum_append, ksum_cons]
  simp [ksum]
theorem accs_worth {s : Led} (h : Inv s) : ksum (worth s) (accs s) = total s * 1000 := by
  rw [ksum_keys (worth s) (r := s.coins) (by rw [accs_keys]; exact skeys_perm _), sum_worth h]
/-- The channels as they are told. -/
def chs (s : Led) : List Chan := (skeys s.chans).map fun k => (mget s.chans k).getD chan0
theorem chs_len (s : Led) : (chs s).length = s.chans.length := by unfold chs; rw [List.length_map, skeys_len]
theorem chs_at (s : Led) {k : Nat} (hk : k < (chs s).length) (hk2 : k < (skeys s.chans).length) : mget s.chans (skeys s.chans)[k] = some (chs s)[k] := by
  have hm : (skeys s.chans)[k] ∈ s.chans.map (·.1) := (skeys_perm s.chans).mem_iff.1 (List.getElem_mem _)
  have h1 := some_getD ((mget_isSome (l := s.chans)).2 hm) chan0
  have h2 : (chs s)[k] = (mget s.chans (skeys s.chans)[k]).getD chan0 := List.getElem_map ..
  rw [h2]
  exact h1
theorem chs_some (s : Led) {c : Chan} (h : c ∈ chs s) : ∃ k, mget s.chans k = some c := by
  obtain ⟨i, hi, rfl⟩ := List.getElem_of_mem h
  have hi2 : i < (skeys s.chans).length := by rw [skeys_len, ← chs_len]; exact hi
  exact ⟨_, chs_at s hi hi2⟩
theorem chs_named {s : Led} (h : Inv s) {c : Chan} (hc : c ∈ chs s) : mget s.chans c.name = some c := by
  obtain ⟨k, hk⟩ := chs_some s hc
  rw [(h.ch _ _ hk).name]; exact hk
theorem chs_mem (s : Led) {k : ByteArray} {c : Chan} (h : mget s.chans k = some c) : c ∈ chs s := by
  have hm : k ∈ skeys s.chans := (skeys_perm s.chans).mem_iff.2 ((mget_isSome (l := s.chans)).1 (by rw [h]; rfl))
  unfold chs
  exact List.mem_map.2 ⟨k, hm, by rw [h]; rfl⟩
theorem accs_congr {s s' : Led} (h : s.coins = s'.coins) : accs s = accs s' := by unfold accs; rw [h]
theorem chs_congr {s s' : Led} (h : s'.chans.map (·.1) = s.chans.map (·.1)) (hg : ∀ k, mget s'.chans k = mget s.chans k) : chs s' = chs s := by
  unfold chs
  rw [skeys_same h]
  exact List.map_congr_left fun k _ => by rw [hg]
/-- A channel's sides and what is held of it. -/
theorem chan_sum {s : Led} (h : Inv s) {c : Chan} (hc : c ∈ chs s) : c.hasA + c.hasB + holdSum (fun x => x.ch == c.name) s.holds = c.cap * 1000 ∧ 0 ≤ c.hasA ∧ 0 ≤ c.hasB ∧ 1 ≤ c.cap ∧ c.cap ≤ maxCoin := by
  obtain ⟨k, hk⟩ := chs_some s hc
  have ho := h.ch _ _ hk
  have h1 := ho.sum
  have e : heldF s.holds k = holdSum (fun x => x.ch == c.name) s.holds := by rw [ho.name]; rfl
  rw [e] at h1
  exact ⟨h1, ho.a0, ho.b0, ho.cap, cap_le h hk⟩
/-- One call of the statements, in plain words: what is left, how much Total may grow, how much it may shrink. -/
structure OpR where
  kind : Int
  name : ByteArray
  a : ByteArray
  b : ByteArray
  n : Int
  p : Int
  c : Int
  legs : List Leg
def doL (s : Led) (x : OpR) : Int × Int × Led :=
  if x.kind % 11 = 0 then (if (mint s x.a x.n).1 = 0 then x.n else 0, 0, (mint s x.a x.n).2)
  else if x.kind % 11 = 1 then (0, if (pay s x.a x.b x.n x.c).1 = 0 then x.c else 0, (pay s x.a x.b x.n x.c).2)
  else if x.kind % 11 = 2 then (0, if (openCh s x.name x.a x.b x.n x.p x.c).1 = 0 then x.c else 0, (openCh s x.name x.a x.b x.n x.p x.c).2)
  else if x.kind % 11 = 3 ∨ x.kind % 11 = 4 then (0, 0, (hold s x.legs).2.2)
  else if x.kind % 11 = 5 then (0, 0, (endH true s x.n).2)
  else if x.kind % 11 = 6 then (0, 0, (endH false s x.n).2)
  else if x.kind % 11 = 7 then (0, if (closeCh s x.name x.c).1 = 0 then x.c + 1 else 0, (closeCh s x.name x.c).2)
  else (0, 0, s)
theorem last_of_hold (s : Led) (legs : List Leg) : (hold s legs).2.2.last ≤ s.last + 1 := by
  unfold Proofs.Ytmlcojhanimnpaa.hold
  split
  · simp only; omega
  split
  · simp only; omega
  split
  · simp only; omega
  · simp only; omega
/-- Each call keeps what is true of a ledger. -/
structure Good (s : Led) (i : Nat) : Prop where
  inv : Inv s
  named : Named s
  last : s.last ≤ i
theorem last_mint (s : Led) (name : ByteArray) (n : Int) : (mint s name n).2.last = s.last := by
  unfold Proofs.Ytmlcojhanimnpaa.mint; split; rfl; split; rfl; split <;> rfl
theorem last_pay (s : Led) (a b : ByteArray) (n c : Int) : (pay s a b n c).2.last = s.last := by
  unfold Proofs.Ytmlcojhanimnpaa.pay; split; rfl; split; rfl; split; rfl; split <;> rfl
theorem last_openCh (s : Led) (name a b : ByteArray) (n p c : Int) : (openCh s name a b n p c).2.last = s.last := by
  unfold Proofs.Ytmlcojhanimnpaa.openCh; split; rfl; split; rfl; split; rfl; split; rfl; split; rfl; split <;> rfl
theorem last_endH (t : Bool) (s : Led) (id : Int) : (endH t s id).2.last = s.last := by
  unfold Proofs.Ytmlcojhanimnpaa.endH; split <;> rfl
theorem last_closeCh (s : Led) (name : ByteArray) (c : Int) : (closeCh s name c).2.last = s.last := by
  unfold Proofs.Ytmlcojhanimnpaa.closeCh; split; rfl; split; rfl; split; rfl; split <;> rfl
theorem Good.step {s : Led} {i : Nat} (h : Good s i) (x : OpR) : Good (doL s x).2.2 (i + 1) := by
  have hl := h.last
  unfold doL
  split
  · exact ⟨(h.inv.mint _ _).1, h.named.mint _ _, by simp only [last_mint]; omega⟩
  split
  · exact ⟨(h.inv.pay _ _ _ _).1, h.named.pay _ _ _ _, by simp only [last_pay]; omega⟩
  split
  · exact ⟨(h.inv.openCh _ _ _ _ _ _).1, h.named.openCh _ _ _ _ _ _, by simp only [last_openCh]; omega⟩
  split
  · exact ⟨(h.inv.hold _).1, h.named.hold h.inv _, by have := last_of_hold s x.legs; simp only; omega⟩
  split
  · exact ⟨(h.inv.endH _ _).1, h.named.endH h.inv _ _, by simp only [last_endH]; omega⟩
  split
  · exact ⟨(h.inv.endH _ _).1, h.named.endH h.inv _ _, by simp only [last_endH]; omega⟩
  split
  · exact ⟨(h.inv.closeCh _ _).1, h.named.closeCh h.inv _ _, by simp only [last_closeCh]; omega⟩
  exact ⟨h.inv, h.named, by simp only; omega⟩
/-- How Total moves. -/
theorem total_step {s : Led} (h : Inv s) (x : OpR) : total (doL s x).2.2 ≤ total s + (doL s x).1 ∧ total s + (doL s x).1 - (doL s x).2.1 ≤ total (doL s x).2.2 := by
  unfold doL
  split
  · have := (h.mint x.a x.n).2
    simp only at this ⊢
    omega
  split
  · obtain ⟨-, h1, h2⟩ := h.pay x.a x.b x.n x.c
    simp only at h1 h2 ⊢
    split at h1
    · rename_i h3; have := h2 h3; rw [if_pos h3]; omega
    · rename_i h3; rw [if_neg h3]; omega
  split
  · obtain ⟨-, h1, h2⟩ := h.openCh x.name x.a x.b x.n x.p x.c
    simp only at h1 h2 ⊢
    split at h1
    · rename_i h3; have := h2 h3; rw [if_pos h3]; omega
    · rename_i h3; rw [if_neg h3]; omega
  split
  · have := (h.hold x.legs).2
    simp only at this ⊢
    omega
  split
  · have := (h.endH true x.n).2
    simp only at this ⊢
    omega
  split
  · have := (h.endH false x.n).2
    simp only at this ⊢
    omega
  split
  · obtain ⟨-, h1, h2, -⟩ := h.closeCh x.name x.c
    simp only at h1 h2 ⊢
    omega
  simp only
  omega
theorem Good.led0 : Good led0 0 := ⟨Inv.led0, Named.led0, by show (0 : Int) ≤ _; omega⟩
end Go.Proofs.Ytmlcojhanimnpaa
