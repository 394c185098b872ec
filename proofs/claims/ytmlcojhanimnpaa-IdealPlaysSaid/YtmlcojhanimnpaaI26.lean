/- Channels: what is told of all channels. -/
import Derived.Test.YtmlcojhanimnpaaI25
namespace Go.Proofs.Ytmlcojhanimnpaa
open Go.RowKit

def chC (c : Chan) : List Value := [.string c.name, .string c.a, .string c.b, .int .i64 c.cap, .int .i64 c.hasA, .int .i64 c.hasB]
def ChsP (w : World) (l : List Chan) (e : Ending) (w' : World) : Prop :=
  ∃ v, e = .returned v ∧ w'.ownsRow w.heap.size 87 6 v l.length (l.flatMap chC) ∧ Below w.heap.size w w'
theorem slChan : SlTyK Try.prog 39 87 (.agg #[.string ⟨#[]⟩, .string ⟨#[]⟩, .string ⟨#[]⟩, .int .i64 0, .int .i64 0, .int .i64 0]) 6 72 := ⟨Try.underlying39, by kernel_rfl, rfl, by decide⟩
set_option maxRecDepth 100000 in
set_option maxHeartbeats 4000000 in
theorem chs_any (p c d : Nat) (v : Value) (vs : List Value) (s : Led) (w : World) (hs : Inv s) (hn : Named s) (h : LedAt w p c d v vs s) :
    Calls Try.prog 17 #[.pointer (some ⟨p, 0, none⟩)] w (ChsP w (chs s)) := by
  obtain ⟨e0, e1, e2, e3⟩ := h.cell
  have hlk := hs.lc
  have HSO := Lib.hid (sortedD d (menc encC s.chans) w h.md (menc_sizes hn.chans) (by rw [menc_len]; omega))
  have hkl : (skeys s.chans).length = s.chans.length := skeys_len _
  have hme : skeys (menc encC s.chans) = skeys s.chans := skeys_menc _ _
  rw [hme] at HSO
  have hat := fun (k : Nat) (hk : k < (chs s).length) (hk2 : k < (skeys s.chans).length) => chs_at s hk hk2
  have hRl : (chs s).length = s.chans.length := chs_len s
  generalize chs s = R at *
  generalize hks : skeys s.chans = ks at *
  have HRK := Lib.hid hat
  have H := Lib.hid h
  clear hs hn h hme hat e0 e2 e3
  go_enter Try.func17, Try.ntmps17
  go_wp2_with fail
  refine (keysD (some d) _).mono ?_
  rintro e w1 ⟨rfl, rfl⟩
  go_wp2_with fail
  refine HSO.out.mono ?_
  rintro e w2 ⟨vk, rfl, hrow, hb2⟩
  obtain ⟨Ak, ck, rfl, -, hck⟩ := own_shape hrow
  have hbw2 : Below w.heap.size w w2 := ((Below.refl _ _).alloc (Nat.le_refl _) _).trans (hb2.mono (by simp))
  have HB2 := Lib.hid hbw2
  have HCK := Lib.hid hck
  clear hrow hb2 hbw2 hck
  go_wp2_with fail
  go_loopw [3, 16] (fun u i wr => ∃ k : Nat, k ≤ ks.length ∧ i = .int .i64 k ∧ wr.ownsRow w2.heap.size 87 6 u k ((R.take k).flatMap chC) ∧ Below w2.heap.size w2 wr) (fun _ i _ => ks.length - (intOf i).toNat)
  case atStart => exact ⟨0, Nat.zero_le _, rfl, World.ownsRow_nil _ _ _ _, Below.refl _ _⟩
  case round =>
    obtain ⟨k, hk, rfl, hown, hb⟩ := hrel
    obtain ⟨Au, cu, hu, -, -⟩ := own_shape hown
    subst hu
    have HOW := Lib.hid hown
    have HBB := Lib.hid hb
    by_cases hlt : k < ks.length
    · obtain ⟨ad, rfl, hc0⟩ := strs_at (HCK.out.below hb) hlt
      have hLw : LedAt wr p c d v vs s := H.out.below (HB2.out.trans (hb.mono HB2.out.size))
      obtain ⟨-, d1, -, -⟩ := hLw.cell
      obtain ⟨key, hkey⟩ : ∃ key, ks[k] = key := ⟨_, rfl⟩
      rw [hkey] at hc0
      have hrk := HRK.out k (by omega) hlt
      rw [hkey] at hrk
      obtain ⟨x, hx⟩ : ∃ x, R[k]'(by omega) = x := ⟨_, rfl⟩
      rw [hx] at hrk
      have hl5 : (Instr.lookup 65 (.map (some d)) (.string key) false).run Try.prog wr = .ok (.agg #[.string x.name, .string x.a, .string x.b, .int .i64 x.cap, .int .i64 x.hasA, .int .i64 x.hasB]) wr := by
        have := look_chans hLw.md key false
        rw [hrk] at this
        exact this
      have htk : (R.take (k + 1)).flatMap chC = (R.take k).flatMap chC ++ [.string x.name, .string x.a, .string x.b, .int .i64 x.cap, .int .i64 x.hasA, .int .i64 x.hasB] := by
        rw [List.take_succ_eq_append_getElem (by omega : k < R.length), List.flatMap_append, hx]; rfl
      have HTK := Lib.hid htk
      have HN1 := Lib.hid (show (k + 1) * 72 ≤ 140737488355328 by omega)
      have HN2 := Lib.hid (show k + 1 ≤ 140737488355328 by omega)
      have HSZ := Lib.hid (show w2.heap.size ≤ (wr.alloc (.cells #[.string x.name, .string x.a, .string x.b, .int .i64 x.cap, .int .i64 x.hasA, .int .i64 x.hasB] 87)).heap.size from Nat.le_trans hb.size (by simp))
      clear hown hb hLw hkey hrk htk hx
      go_wp2_with (at_builtin; go_must (refine wpList_appk slChan rfl _ _ rfl w2.heap.size _ k ((R.take k).flatMap chC) rfl (own_below HOW.out ((Below.refl _ _).alloc (Nat.le_refl _) _)) (some ⟨wr.heap.size, 0, none⟩) 1 1 [.string x.name, .string x.a, .string x.b, .int .i64 x.cap, .int .i64 x.hasA, .int .i64 x.hasB] rfl rfl (fun _ => ⟨_, rfl, fun j u hj => World.news_of_block (Go.heap_alloc_new wr _) j u hj⟩) (by simp [Value.oneCell']) HN1.out HN2.out HSZ.out ?_); intro v6 w6 hown6 hg6 hb6 hat6)
      go_roundw
      case rel => exact ⟨k + 1, by omega, by go_num, by rw [HTK.out]; exact hown6, (HBB.out.alloc HBB.out.size _).trans hb6⟩
      case measure => simp [intOf]; omega
    · have hke : k = R.length := by omega
      subst hke
      have hfin : ChsP w R (.returned (.slice Au R.length cu)) wr := by
        refine ⟨_, rfl, ?_, HB2.out.trans (hb.mono HB2.out.size)⟩
        rw [List.take_length] at hown
        exact base_le hown HB2.out.size
      have HF := Lib.hid hfin
      clear hfin hown hb
      go_wp2_with fail
      go_ret
      exact HF.out
end Go.Proofs.Ytmlcojhanimnpaa
