/- Accounts: what is told of all accounts. -/
import Derived.Test.YtmlcojhanimnpaaTold
import Derived.Test.YtmlcojhanimnpaaI24
import Derived.Deep.DeepMust
namespace Go.Proofs.Ytmlcojhanimnpaa
open Go.RowKit

def accC (p : ByteArray × Int) : List Value := [.string p.1, .int .i64 p.2]
def AccP (w : World) (l : List (ByteArray × Int)) (e : Ending) (w' : World) : Prop :=
  ∃ v, e = .returned v ∧ w'.ownsRow w.heap.size 43 2 v l.length (l.flatMap accC) ∧ Below w.heap.size w w'
theorem slAcc : SlTyK Try.prog 37 43 (.agg #[.string ⟨#[]⟩, .int .i64 0]) 2 24 := ⟨Try.underlying37, by kernel_rfl, rfl, by decide⟩
theorem named_size {s : ByteArray} (h : namedB s = true) : s.size ≤ 1000 := by unfold namedB at h; simp at h; omega
theorem menc_sizes {α : Type} {f : α → Value} {l : List (ByteArray × α)} (h : ∀ p ∈ l, namedB p.1 = true) : ∀ p ∈ menc f l, p.1.size ≤ 1000 := fun p hp => by
  unfold menc at hp
  obtain ⟨q, hq, rfl⟩ := List.mem_map.1 hp
  exact named_size (h q hq)
theorem base_le {w : World} {base base' : Nat} {E : TypeId} {k : Nat} {v : Value} {n : Nat} {xs : List Value} (h : w.ownsRow base E k v n xs) (hb : base' ≤ base) : w.ownsRow base' E k v n xs := by
  refine ⟨h.1, ?_⟩
  rcases h.2 with h0 | ⟨g, cap, cur, hv, hg, hr⟩
  · exact .inl h0
  · exact .inr ⟨g, cap, cur, hv, Nat.le_trans hb hg, hr⟩
/-- The cells of a row of strings. -/
theorem strs_at {w : World} {A : Option Addr} {l : List ByteArray} (h : Cells w A (l.map .string)) {k : Nat} (hk : k < l.length) : ∃ ad, A = some ad ∧ w.cell? (ad.add k) = some (.string l[k]) := by
  obtain ⟨ad, he, hc⟩ := h.at_ (k := k) (by simpa using hk)
  exact ⟨ad, he, by rw [hc]; simp⟩
set_option maxRecDepth 100000 in
set_option maxHeartbeats 4000000 in
theorem acc_any (p c d : Nat) (v : Value) (vs : List Value) (s : Led) (w : World) (hs : Inv s) (hn : Named s) (h : LedAt w p c d v vs s) :
    Calls Try.prog 16 #[.pointer (some ⟨p, 0, none⟩)] w (AccP w (accs s)) := by
  obtain ⟨e0, e1, e2, e3⟩ := h.cell
  have hlk := hs.lk
  have HSO := Lib.hid (sortedC c (menc encI s.coins) w h.mc (menc_sizes hn.coins) (by rw [menc_len]; omega))
  have hkl : (skeys s.coins).length = s.coins.length := skeys_len _
  have hme : skeys (menc encI s.coins) = skeys s.coins := skeys_menc _ _
  rw [hme] at HSO
  obtain ⟨R, hR⟩ : ∃ R, accs s = R := ⟨_, rfl⟩
  rw [hR]
  have hRl : R.length = s.coins.length := by rw [← hR]; unfold accs; rw [List.length_map, hkl]
  have hRk : ∀ k (hk : k < R.length) (hk2 : k < (skeys s.coins).length), R[k] = ((skeys s.coins)[k], (mget s.coins (skeys s.coins)[k]).getD 0) := by
    intro k hk hk2
    subst hR
    exact accs_at s hk hk2
  generalize hks : skeys s.coins = ks at *
  have HRK := Lib.hid hRk
  have H := Lib.hid h
  clear hs hn h hme hR hRk e1 e2 e3
  go_enter Try.func16, Try.ntmps16
  go_wp2_with fail
  refine (keysC (some c) _).mono ?_
  rintro e w1 ⟨rfl, rfl⟩
  go_wp2_with fail
  refine HSO.out.mono ?_
  rintro e w2 ⟨vk, rfl, hrow, hb2⟩
  obtain ⟨Ak, ck, rfl, -, hck⟩ := own_shape hrow
  have hbw2 : Below w.heap.size w w2 := ((Below.refl _ _).alloc (Nat.le_refl _) _).trans (hb2.mono (by simp))
  have HB2 := Lib.hid hbw2
  have HCK := Lib.hid hck
  clear hrow hb2 hbw2 hck
  go_wp2_with fail
  go_loopw [3, 16] (fun u i wr => ∃ k : Nat, k ≤ ks.length ∧ i = .int .i64 k ∧ wr.ownsRow w2.heap.size 43 2 u k ((R.take k).flatMap accC) ∧ Below w2.heap.size w2 wr) (fun _ i _ => ks.length - (intOf i).toNat)
  case atStart => exact ⟨0, Nat.zero_le _, rfl, World.ownsRow_nil _ _ _ _, Below.refl _ _⟩
  case round =>
    obtain ⟨k, hk, rfl, hown, hb⟩ := hrel
    obtain ⟨Au, cu, hu, -, -⟩ := own_shape hown
    subst hu
    have HOW := Lib.hid hown
    have HBB := Lib.hid hb
    by_cases hlt : k < ks.length
    · obtain ⟨ad, rfl, hc0⟩ := strs_at (HCK.out.below hb) hlt
      have hLw : LedAt wr p c d v vs s := H.out.below (HB2.out.trans (hb.mono HB2.out.size))
      obtain ⟨d0, -, -, -⟩ := hLw.cell
      obtain ⟨key, hkey⟩ : ∃ key, ks[k] = key := ⟨_, rfl⟩
      have hl5 := look_coins hLw.mc key false
      simp only [Bool.false_eq_true, if_false] at hl5
      rw [hkey] at hc0
      have hrk := HRK.out k (by omega) hlt
      rw [hkey] at hrk
      obtain ⟨n, hn⟩ : ∃ n, (mget s.coins key).getD 0 = n := ⟨_, rfl⟩
      rw [hn] at hl5 hrk
      have htk : (R.take (k + 1)).flatMap accC = (R.take k).flatMap accC ++ [.string key, .int .i64 n] := by
        rw [List.take_succ_eq_append_getElem (by omega : k < R.length), List.flatMap_append, hrk]; rfl
      have HTK := Lib.hid htk
      have HN1 := Lib.hid (show (k + 1) * 24 ≤ 140737488355328 by omega)
      have HN2 := Lib.hid (show k + 1 ≤ 140737488355328 by omega)
      have HSZ := Lib.hid (show w2.heap.size ≤ (wr.alloc (.cells #[.string key, .int .i64 n] 43)).heap.size from Nat.le_trans hb.size (by simp))
      clear hown hb hLw hkey hrk hn htk
      go_wp2_with (at_builtin; go_must (refine wpList_appk slAcc rfl _ _ rfl w2.heap.size _ k ((R.take k).flatMap accC) rfl (own_below HOW.out ((Below.refl _ _).alloc (Nat.le_refl _) _)) (some ⟨wr.heap.size, 0, none⟩) 1 1 [.string key, .int .i64 n] rfl rfl (fun _ => ⟨_, rfl, fun j u hj => World.news_of_block (Go.heap_alloc_new wr _) j u hj⟩) (by simp [Value.oneCell']) HN1.out HN2.out HSZ.out ?_); intro v6 w6 hown6 hg6 hb6 hat6)
      go_roundw
      case rel => exact ⟨k + 1, by omega, by go_num, by rw [HTK.out]; exact hown6, (HBB.out.alloc HBB.out.size _).trans hb6⟩
      case measure => simp [intOf]; omega
    · have hke : k = R.length := by omega
      subst hke
      have hfin : AccP w R (.returned (.slice Au R.length cu)) wr := by
        refine ⟨_, rfl, ?_, HB2.out.trans (hb.mono HB2.out.size)⟩
        rw [List.take_length] at hown
        exact base_le hown HB2.out.size
      have HF := Lib.hid hfin
      clear hfin hown hb
      go_wp2_with fail
      go_ret
      exact HF.out
end Go.Proofs.Ytmlcojhanimnpaa
