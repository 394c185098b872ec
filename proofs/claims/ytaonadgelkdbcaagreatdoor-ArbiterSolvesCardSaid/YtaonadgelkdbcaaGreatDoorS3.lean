/- A transaction's id: the program's name, the document's id; times. · A map keyed by points: how often each was met. -/
import Derived.Test.YtaonadgelkdbcaaGreatDoorQ2
import Derived.Test.YtaonadgelkdbcaaGreatDoorS2
import Derived.Test.YtaonadgelkdbcaaGreatDoorShelfT
import Derived.Test.YtaonadgelkdbcaaGreatDoorBase
import Derived.Maps.OwnSet
import Derived.Maps.Views
import Derived.DeepKeys5
import Derived.WideKeyEntry
namespace Go.Proofs.YtaonadgelkdbcaaGreatDoor
open Go.RowKit Go.Shelf

/-- What name looks for, rune by rune. -/
def idOdd (r : Nat) : Bool := (decide (r < 48) || decide (57 < r)) && (decide (r < 97) || decide (102 < r))
theorem idOdd_byte (c : UInt8) : idOdd c.toNat = !idByte c := by
  unfold idOdd idByte
  by_cases h1 : 48 ≤ c.toNat <;> by_cases h2 : c.toNat ≤ 57 <;> by_cases h3 : 97 ≤ c.toNat <;> by_cases h4 : c.toNat ≤ 102 <;> simp [h1, h2, h3, h4] <;> omega
theorem idIdx_ok (s : ByteArray) (h : ∀ j (hj : j < s.size), idByte s[j] = true) : ∀ f pos, Lib.idxFuncFrom idOdd true s f pos = -1 := by
  intro f
  induction f with
  | zero => intro pos; rfl
  | succ f ih =>
    intro pos
    unfold Lib.idxFuncFrom
    split
    · rename_i hp
      have hk := h pos hp
      have h128 : (s[pos]).toNat < 128 := by
        unfold idByte at hk; simp only [Bool.and_eq_true, Bool.or_eq_true, decide_eq_true_eq] at hk; omega
      rw [decode_ascii s pos hp h128]
      simp only [idOdd_byte, hk]
      rw [if_neg (by simp)]
      exact ih _
    · rfl
theorem idIdx_bad (s : ByteArray) (j : Nat) (hj : j < s.size) (hb : idByte s[j] = false) : ∀ f pos, pos ≤ j → j - pos < f → 0 ≤ Lib.idxFuncFrom idOdd true s f pos := by
  intro f
  induction f with
  | zero => intro pos _ h; omega
  | succ f ih =>
    intro pos hp hf
    have hps : pos < s.size := by omega
    unfold Lib.idxFuncFrom
    rw [if_pos hps]
    split
    · omega
    · rename_i hn
      by_cases h128 : (s[pos]).toNat < 128
      · rw [decode_ascii s pos hps h128] at hn ⊢
        simp only [idOdd_byte] at hn
        have hne : pos ≠ j := by
          intro e
          subst e
          rw [hb] at hn
          exact hn rfl
        exact ih _ (by omega) (by omega)
      · have h := (decode_high s pos hps (by omega)).1
        exfalso
        refine hn ?_
        unfold idOdd
        simp; omega
theorem idIdx (s : ByteArray) : decide (0 ≤ Lib.idxFunc idOdd true s) = !(s.data.toList.all idByte) := by
  cases h : s.data.toList.all idByte with
  | true =>
    rw [show Lib.idxFunc idOdd true s = -1 from idIdx_ok s (fun j hj => by
      rw [List.all_eq_true] at h
      exact h _ (List.getElem_mem (l := s.data.toList) (n := j) (by simpa using hj))) _ _]
    rfl
  | false =>
    rw [List.all_eq_false] at h
    obtain ⟨x, hx, hb⟩ := h
    obtain ⟨j, hj, rfl⟩ := List.mem_iff_getElem.1 hx
    have hj' : j < s.size := by simpa using hj
    exact decide_eq_true (idIdx_bad s j hj' (Bool.not_eq_true _ ▸ hb) _ _ (Nat.zero_le _) (by omega))
set_option maxRecDepth 100000 in
set_option maxHeartbeats 4000000 in
theorem idOdd_gives (w : World) : PredAtRunes Tryz.prog 71 #[] idOdd w := by
  intro W r _ _
  unfold FnGives
  have e : idOdd r = ((decide (r < 48) || decide (57 < r)) && (decide (r < 97) || decide (102 < r))) := rfl
  rw [e]
  clear e
  by_cases h1 : r < 48
  · have g1 : decide ((r : Int) < 48) = true := decide_eq_true (by omega)
    have g3 : decide ((r : Int) < 97) = true := decide_eq_true (by omega)
    go_enter Tryz.func71, Tryz.ntmps71
    go_wp2_with fail
    go_ret
    refine ⟨ret_bool ?_, 0, rfl⟩
    simp <;> omega
  have g1 : decide ((r : Int) < 48) = false := decide_eq_false (by omega)
  by_cases h2 : r ≤ 57
  · have g2 : decide ((57 : Int) < (r : Int)) = false := decide_eq_false (by omega)
    go_enter Tryz.func71, Tryz.ntmps71
    go_wp2_with fail
    go_ret
    refine ⟨ret_bool ?_, 0, rfl⟩
    simp <;> omega
  have g2 : decide ((57 : Int) < (r : Int)) = true := decide_eq_true (by omega)
  by_cases h3 : r < 97
  · have g3 : decide ((r : Int) < 97) = true := decide_eq_true (by omega)
    go_enter Tryz.func71, Tryz.ntmps71
    go_wp2_with fail
    go_ret
    refine ⟨ret_bool ?_, 0, rfl⟩
    simp <;> omega
  have g3 : decide ((r : Int) < 97) = false := decide_eq_false (by omega)
  by_cases h4 : r ≤ 102
  · have g4 : decide ((102 : Int) < (r : Int)) = false := decide_eq_false (by omega)
    go_enter Tryz.func71, Tryz.ntmps71
    go_wp2_with fail
    go_ret
    refine ⟨ret_bool ?_, 0, rfl⟩
    simp <;> omega
  · have g4 : decide ((102 : Int) < (r : Int)) = true := decide_eq_true (by omega)
    go_enter Tryz.func71, Tryz.ntmps71
    go_wp2_with fail
    go_ret
    refine ⟨ret_bool ?_, 0, rfl⟩
    simp <;> omega
set_option maxRecDepth 100000 in
set_option maxHeartbeats 4000000 in
theorem txname_any (s : ByteArray) (w : World) : Calls Tryz.prog 51 #[.string s] w fun e w' => e = .returned (.bool (idB s)) ∧ Below w.heap.size w w' := by
  obtain ⟨R, hR⟩ : ∃ R, idB s = R := ⟨_, rfl⟩
  rw [hR]
  by_cases h64 : s.size = 64
  · have g0 : ((s.size : Int) == 64) = true := by rw [h64]; rfl
    have HI := Lib.hid (idIdx s)
    have HR := Lib.hid (show s.data.toList.all idByte = R by rw [← hR]; unfold idB; rw [decide_eq_true h64, Bool.and_true])
    have HC := Lib.hid (Tryz.strings_ContainsFunc_runes 71 #[] (enters_of Tryz.func71 (by kernel_rfl) rfl) idOdd s w (idOdd_gives w))
    clear hR h64
    go_enter Tryz.func51, Tryz.ntmps51
    go_wp2_with fail
    refine HC.out.mono ?_
    rintro e w1 ⟨rfl, hb1⟩
    have HB1 := Lib.hid hb1
    clear hb1
    go_wp2_with fail
    go_ret
    refine ⟨ret_bool ?_, HB1.out⟩
    rw [HI.out, HR.out]; simp
  · have g0 : ((s.size : Int) == 64) = false := beq_false_of_ne (by omega)
    have HR := Lib.hid (show R = false by rw [← hR]; unfold idB; rw [decide_eq_false h64, Bool.and_false])
    clear hR h64
    go_enter Tryz.func51, Tryz.ntmps51
    go_wp2_with fail
    go_ret
    rw [HR.out]
    exact ⟨rfl, Below.refl _ _⟩
set_option maxRecDepth 100000 in
set_option maxHeartbeats 4000000 in
theorem rtime_any (n : Int) (w : World) : Calls Tryz.prog 52 #[.int .i64 n] w fun e w' => e = .returned (.bool (timeB n)) ∧ w' = w := by
  unfold timeB
  by_cases h0 : 0 ≤ n
  · have g0 : decide (0 ≤ n) = true := decide_eq_true h0
    by_cases h1 : n < 1073741824
    · have g1 : decide (n < 1073741824) = true := decide_eq_true h1
      rw [g0, g1]
      go_enter Tryz.func52, Tryz.ntmps52
      go_wp2_with fail
      go_ret
      exact ⟨rfl, rfl⟩
    · have g1 : decide (n < 1073741824) = false := decide_eq_false h1
      rw [g0, g1]
      go_enter Tryz.func52, Tryz.ntmps52
      go_wp2_with fail
      go_ret
      exact ⟨rfl, rfl⟩
  · have g0 : decide (0 ≤ n) = false := decide_eq_false h0
    rw [g0, Bool.false_and]
    go_enter Tryz.func52, Tryz.ntmps52
    go_wp2_with fail
    go_ret
    exact ⟨rfl, rfl⟩
theorem idByte_iff (c : UInt8) (x : Int) (hx : (c.toNat : Int) = x) : idByte c = (decide (48 ≤ x) && decide (x ≤ 57) || decide (97 ≤ x) && decide (x ≤ 102)) := by
  unfold idByte
  subst hx
  by_cases h1 : 48 ≤ c.toNat <;> by_cases h2 : c.toNat ≤ 57 <;> by_cases h3 : 97 ≤ c.toNat <;> by_cases h4 : c.toNat ≤ 102 <;> simp [h1, h2, h3, h4] <;> omega
theorem all_from (p : UInt8 → Bool) (s : ByteArray) {k : Nat} (hk : k < s.size) : (s.data.toList.drop k).all p = (p (byte s.data.toList k) && (s.data.toList.drop (k + 1)).all p) := by
  have hl : k < s.data.toList.length := by simpa using hk
  rw [List.drop_eq_getElem_cons hl, List.all_cons]
  unfold byte
  rw [List.getD_eq_getElem?_getD, List.getElem?_eq_getElem hl]; rfl
set_option maxRecDepth 100000 in
set_option maxHeartbeats 8000000 in
theorem rid_any (s : ByteArray) (w : World) (hs : s.size ≤ 1125899906842624) : Calls Tryz.prog 53 #[.string s] w fun e w' => e = .returned (.bool (idB s)) ∧ w' = w := by
  obtain ⟨R, hR⟩ : ∃ R, idB s = R := ⟨_, rfl⟩
  rw [hR]
  have HR := Lib.hid (show ((s.data.toList.drop 0).all idByte && decide (s.size = 64)) = R by rw [List.drop_zero]; exact hR)
  clear hR
  go_enter Tryz.func53, Tryz.ntmps53
  go_wp2_with fail
  go_loop [3] (fun i => ∃ j : Nat, j ≤ s.size ∧ i = .int .i64 (j : Int) ∧ ((s.data.toList.drop j).all idByte && decide (s.size = 64)) = R) (fun i => s.size - (intOf i).toNat)
  case atStart => exact ⟨0, Nat.zero_le _, rfl, HR.out⟩
  case round =>
    obtain ⟨j, hj, rfl, hrest⟩ := hrel
    by_cases hlt : j < s.size
    · have hix := fun W => index_at hlt W
      rw [all_from idByte s hlt] at hrest
      obtain ⟨c, hc0⟩ : ∃ c, byte s.data.toList j = c := ⟨_, rfl⟩
      rw [hc0] at hix hrest
      obtain ⟨x, hx⟩ : ∃ x : Int, (c.toNat : Int) = x := ⟨_, rfl⟩
      simp only [hx] at hix
      have hib := idByte_iff c x hx
      have HREST := Lib.hid hrest
      have HIB := Lib.hid hib
      clear hrest hib hc0 hx
      by_cases k1 : 48 ≤ x
      · have g1 : decide (48 ≤ x) = true := decide_eq_true k1
        by_cases k2 : x ≤ 57
        · have g2 : decide (x ≤ 57) = true := decide_eq_true k2
          have HN := Lib.hid (show ((s.data.toList.drop (j + 1)).all idByte && decide (s.size = 64)) = R by rw [← HREST.out, HIB.out, g1, g2]; simp)
          go_wp2_with fail
          go_roundw
          case rel => exact ⟨j + 1, by omega, by go_num, HN.out⟩
          case measure => simp [intOf]; omega
        · have g2 : decide (x ≤ 57) = false := decide_eq_false k2
          by_cases k3 : 97 ≤ x
          · have g3 : decide (97 ≤ x) = true := decide_eq_true k3
            by_cases k4 : x ≤ 102
            · have g4 : decide (x ≤ 102) = true := decide_eq_true k4
              have HN := Lib.hid (show ((s.data.toList.drop (j + 1)).all idByte && decide (s.size = 64)) = R by rw [← HREST.out, HIB.out, g1, g2, g3, g4]; simp)
              go_wp2_with fail
              go_roundw
              case rel => exact ⟨j + 1, by omega, by go_num, HN.out⟩
              case measure => simp [intOf]; omega
            · have g4 : decide (x ≤ 102) = false := decide_eq_false k4
              have HN := Lib.hid (show R = false by rw [← HREST.out, HIB.out, g1, g2, g3, g4]; simp)
              go_wp2_with fail
              go_ret
              rw [HN.out]
              exact ⟨rfl, rfl⟩
          · have g3 : decide (97 ≤ x) = false := decide_eq_false k3
            have HN := Lib.hid (show R = false by rw [← HREST.out, HIB.out, g1, g2, g3]; simp)
            go_wp2_with fail
            go_ret
            rw [HN.out]
            exact ⟨rfl, rfl⟩
      · have g1 : decide (48 ≤ x) = false := decide_eq_false k1
        have g3 : decide (97 ≤ x) = false := decide_eq_false (by omega)
        have HN := Lib.hid (show R = false by rw [← HREST.out, HIB.out, g1, g3]; simp)
        go_wp2_with fail
        go_ret
        rw [HN.out]
        exact ⟨rfl, rfl⟩
    · have HN := Lib.hid (show decide (s.size = 64) = R by rw [← hrest, List.drop_of_length_le (by simp; omega)]; rfl)
      clear hrest
      by_cases h64 : s.size = 64
      · have g0 : ((s.size : Int) == 64) = true := by rw [h64]; rfl
        have HN := Lib.hid (show R = true by rw [← HN.out]; exact decide_eq_true h64)
        clear h64
        go_wp2_with fail
        go_ret
        rw [HN.out]
        exact ⟨rfl, rfl⟩
      · have g0 : ((s.size : Int) == 64) = false := beq_false_of_ne (by omega)
        have HN := Lib.hid (show R = false by rw [← HN.out]; exact decide_eq_false h64)
        clear h64
        go_wp2_with fail
        go_ret
        rw [HN.out]
        exact ⟨rfl, rfl⟩
end Go.Proofs.YtaonadgelkdbcaaGreatDoor

namespace Go.Proofs.YtaonadgelkdbcaaGreatDoor
open Go.RowKit
open Go.WideElems (Fit rd rg pl rd_val elemAt)
open Go.Maps (Keyed)
open Go.ChangeMaps (setBlock heap_setBlock_same)
open Go.WideMaps (KeyLaw)

section
variable {H : Type} {P : Program} {w : World} {t k e : TypeId} {R : Value → Option (DataW H × List MemPlace)} {b n : Nat} {D : DataW H}
theorem setBlock_twice (b : Nat) (o o' : Obj) : setBlock (setBlock w b o) b o' = setBlock w b o' := by
  unfold setBlock
  simp [Array.setIfInBounds_setIfInBounds]
theorem setBlock_same {o : Obj} (h : w.heap[b]? = some o) : setBlock w b o = w := by
  unfold setBlock
  congr 1
  apply Array.ext_getElem?
  intro i
  rw [Array.getElem?_setIfInBounds]
  split
  · rename_i hi; subst hi
    rw [if_pos (Array.getElem?_eq_some_iff.1 h).1, h]
  · rfl
/-- 'm[k]++' at a map of the call's own: the entry is asked for, looked at ahead of that or behind it, then stored to. -/
theorem entry_own {z : Value} {zd : DataW H} {zp : List MemPlace} (h : w.ownsMap P k R b n D) (K : KeyLaw P k) (ht : P.underlying t = some (.map k e)) (hz : ∀ u : World, (zeroValue e).run P u = .ok z u) (hzd : R z = some (zd, zp)) (hn : n < maxLen) {key : Value} {kl : Lit} (hkey : keyOf P k key = some kl) :
    ∃ (v0 : Value) (st : Nat) (w1 : World) (D1 : DataW H), (Instr.mapEntry t (.map (some b)) key).run P w = .ok (.tuple #[v0, goInt st]) w1 ∧ w1.ownsMap P k R b (n + 1) D1 ∧ D1.atKey kl zd = D.atKey kl zd ∧ w.grownBy w1 (some b) ∧
      ∀ (val : Value) (d : DataW H) (ps : List MemPlace), R val = some (d, ps) → ∃ w2, (Instr.entryStore t (.map (some b)) (goInt st) val).run P w1 = .ok () w2 ∧ w2.ownsMap P k R b (n + 1) (D.put kl d) ∧ w.grownBy w2 (some b) := by
  have hown := h
  obtain ⟨es, clock, hb, F, hs, hD⟩ := h
  have KK := Keyed.of_law K
  obtain ⟨v0, st, es1, clock1, hE, -, hS⟩ := Go.WideElems.entry_then_store K ht hz hb F hkey
  have h1b : (setBlock w b (.map es1 clock1)).heap[b]? = some (.map es1 clock1) := heap_setBlock_same hb _
  have hW1 : ∃ D1, (setBlock w b (.map es1 clock1)).ownsMap P k R b (n + 1) D1 ∧ D1.atKey kl zd = D.atKey kl zd := by
    rcases K.find w hkey es.toList F.keys with ⟨g1, g2⟩ | ⟨j, e0, g1, g2, g3⟩
    · have e1 : (Instr.mapEntry t (.map (some b)) key).run P w = .ok (.tuple #[z, goInt clock]) (setBlock w b (.map (es.push ⟨key, z, clock⟩) (clock + 1))) := by
        simp [Instr.mapEntry, run_underlying ht, MapKept.run_getObj_map hb, K.check w false hkey, g1, hz, MapKept.run_setObj_map _ hb, Result.andThen, setBlock]
      have e2 : (Instr.mapUpdate t (.map (some b)) key z).run P w = .ok () (setBlock w b (.map (es.push ⟨key, z, clock⟩) (clock + 1))) := by
        simp [Instr.mapUpdate, run_underlying ht, MapKept.run_getObj_map hb, K.check w false hkey, g1, MapKept.run_setObj_map _ hb, Result.andThen, setBlock]
      rw [hE] at e1
      injection e1 with e1 e3
      obtain ⟨w', hu, ho, -⟩ := hown.update KK ht hn hkey hzd
      rw [e2] at hu
      injection hu with _ hu
      rw [e3, hu]
      refine ⟨_, ho, ?_⟩
      rw [Go.Maps.atKey_put_same hown.isMap (KK.key hkey)]
      rcases Maps.fit_look false KK ht (hz w) hb F hkey with ⟨-, -, hat⟩ | ⟨e0, y, hm, hk0, -⟩
      · rw [hD]; exact (hat zd).symm
      · exact absurd hk0 (g2 e0 hm)
    · have hj : es[j]? = some e0 := by simpa using g2
      have hsame : es.modify j (fun e => { e with key := key }) = es := by
        apply Array.ext'
        rw [Array.toList_modify, Go.ChangeMaps.modify_eq_set _ _ _ _ g2]
        have : ({ e0 with key := key } : MapEntry) = e0 := by rw [← g3]
        rw [this]
        exact Go.WideElems.set_self _ _ _ g2
      have e1 : (Instr.mapEntry t (.map (some b)) key).run P w = .ok (.tuple #[e0.val, goInt e0.born]) (setBlock w b (.map es clock)) := by
        simp [Instr.mapEntry, run_underlying ht, MapKept.run_getObj_map hb, K.check w false hkey, g1, hj, g3, K.stays w hkey, hsame, MapKept.run_setObj_map _ hb, Result.andThen, setBlock]
      rw [hE] at e1
      injection e1 with e1 e3
      rw [e3, setBlock_same hb]
      exact ⟨D, hown.mono (by omega), rfl⟩
  obtain ⟨D1, o1, a1⟩ := hW1
  refine ⟨v0, st, _, D1, hE, o1, a1, ?_, fun val d ps hv => ?_⟩
  · exact ⟨rfl, rfl, rfl, by simp [setBlock], fun i _ hi => Go.ChangeMaps.heap_setBlock_other hb _ (fun e => hi (by rw [e]))⟩
  · obtain ⟨es', clock', r1, r2⟩ := hS _ val h1b
    obtain ⟨w', hu, ho, hg⟩ := hown.update KK ht hn hkey hv
    rw [r2] at hu
    injection hu with _ hu
    refine ⟨_, r1, ?_, ?_⟩
    · rw [setBlock_twice, hu]; exact ho
    · rw [setBlock_twice, hu]; exact hg
end
/-- A point as a key. -/
def ptV (x : InT) : Value := .agg #[.string x.tx, .int .i64 x.pn]
def ptL (x : InT) : Lit := .string (keyBytes [.string x.tx.data.toList, .int .i64 x.pn])
def ptOk (x : InT) : Prop := x.tx.size ≤ maxLen ∧ (Lit.int .i64 x.pn).wf = true
theorem pt_key {x : InT} (h : ptOk x) : keyOf Tryz.prog 59 (ptV x) = some (ptL x) := by
  have hkt : Tryz.prog.keyType 59 = true := by kernel_rfl
  have hce : Tryz.prog.cellsOf 59 = 2 := by kernel_rfl
  have c1 : Tryz.prog.cellsOf 9 = 1 := by kernel_rfl
  have c2 : Tryz.prog.cellsOf 3 = 1 := by kernel_rfl
  obtain ⟨m, hm⟩ : ∃ m, Tryz.prog.types.size = m + 1 := ⟨Tryz.prog.types.size - 1, by kernel_rfl⟩
  unfold keyOf ptV ptL
  simp only [Tryz.underlying59]
  rw [if_pos (by simp [hkt, Value.formed, Tryz.underlying59, hce]), hm]
  unfold Program.keyLits
  simp only [Tryz.underlying59, Value.cells]
  rw [if_pos ⟨by rw [hce]; rfl, by kernel_rfl⟩]
  simp [List.mapM_cons, Program.keyLits, Tryz.underlying9, Tryz.underlying3, c1, c2, h.1, h.2]
theorem ptLaw : KeyLaw Tryz.prog 59 := deep_law_gate (by kernel_rfl) (of_decide_eq_true (by kernel_rfl)) (of_decide_eq_true (by kernel_rfl)) (by kernel_rfl) (by kernel_rfl)
theorem ptL_inj {x y : InT} (hx : ptOk x) (hy : ptOk y) (h : ptL x = ptL y) : ptEq x y = true := by
  have := ptLaw.inj (pt_key hx) (by rw [h]; exact pt_key hy)
  unfold ptV at this
  injection this with this
  injection this with this
  injection this with h1 h2
  injection h2 with h2 _
  injection h1 with h1
  injection h2 with _ h2
  unfold ptEq
  rw [h1, h2]
  simp
theorem ptL_eq {x y : InT} (h : ptEq x y = true) : ptL x = ptL y := by
  unfold ptEq at h
  rw [Bool.and_eq_true] at h
  have h1 : x.tx.toList = y.tx.toList := eq_of_beq h.1
  have h2 : x.pn = y.pn := eq_of_beq h.2
  unfold ptL
  rw [h2, show x.tx.data.toList = y.tx.data.toList by rw [← Go.ByteArray.toList_eq, ← Go.ByteArray.toList_eq, h1]]
/-- The map of points, behind those that were seen: each of them once. -/
def Met (w : World) (b : Nat) (seen : List InT) : Prop := ∃ (n : Nat) (D : DataW Unit), w.ownsMap Tryz.prog 59 (plainElem Tryz.prog 3) b n D ∧ n ≤ seen.length ∧ ∀ x, ptOk x → D.atKey (ptL x) (.lit (.int .i64 0)) = .lit (.int .i64 (if seen.any (ptEq x) then 1 else 0))
theorem Met.start (w : World) : Met (w.alloc (.map #[] 0)) w.heap.size [] :=
  ⟨0, _, World.ownsMap_made w _ _ _, Nat.le_refl _, fun _ _ => rfl⟩
theorem Met.lt {w : World} {b : Nat} {seen : List InT} (h : Met w b seen) : b < w.heap.size := by
  obtain ⟨n, D, h1, -⟩ := h
  exact h1.lt
theorem Met.below {w w' : World} {b : Nat} {seen : List InT} (h : Met w b seen) (hb : Below w.heap.size w w') : Met w' b seen := by
  obtain ⟨n, D, h1, h2, h3⟩ := h
  obtain ⟨es, clock, g1, g2⟩ := h1
  exact ⟨n, D, ⟨es, clock, (hb.block b (Array.getElem?_eq_some_iff.1 g1).1).trans g1, g2⟩, h2, h3⟩
theorem Met.grown {w w' : World} {b g : Nat} {seen : List InT} (h : Met w b seen) (hg : w.grownBy w' (some g)) (hne : b ≠ g) : Met w' b seen := by
  obtain ⟨n, D, h1, h2, h3⟩ := h
  exact ⟨n, D, h1.kept hg (fun e => hne (by injection e)), h2, h3⟩
theorem if_one {p : Bool} {c : Int} (h : (if p then (1 : Int) else 0) = c) : (p = true ∧ c = 1) ∨ (p = false ∧ c = 0) := by
  cases p
  · exact .inr ⟨rfl, h.symm⟩
  · exact .inl ⟨rfl, h.symm⟩
theorem lit_inj {a b : Int} (h : (DataW.lit (.int .i64 a) : DataW Unit) = .lit (.int .i64 b)) : a = b := by
  injection h with h
  injection h
/-- A point is met: what is told, and the map behind it. -/
theorem Met.step {w : World} {b : Nat} {seen : List InT} (h : Met w b seen) (hl : seen.length ≤ 1000) {x : InT} (hx : ptOk x) :
    ∃ (c : Int) (v0 : Value) (st : Nat) (w1 w2 : World), c = (if seen.any (ptEq x) then 1 else 0) ∧ (Instr.lookup 83 (.map (some b)) (ptV x) false).run Tryz.prog w = .ok (.int .i64 c) w ∧
      (Instr.mapEntry 83 (.map (some b)) (ptV x)).run Tryz.prog w = .ok (.tuple #[v0, goInt st]) w1 ∧ (Instr.lookup 83 (.map (some b)) (ptV x) false).run Tryz.prog w1 = .ok (.int .i64 c) w1 ∧ w.grownBy w1 (some b) ∧
      (Instr.entryStore 83 (.map (some b)) (goInt st) (.int .i64 (c + 1))).run Tryz.prog w1 = .ok () w2 ∧ w.grownBy w2 (some b) ∧ (Instr.lookup 83 (.map (some b)) (ptV x) false).run Tryz.prog w2 = .ok (.int .i64 (c + 1)) w2 ∧ (c = 0 → Met w2 b (seen ++ [x])) := by
  obtain ⟨n, D, h1, h2, h3⟩ := h
  have KK := Keyed.of_law ptLaw
  have hmax : n < maxLen := by unfold maxLen; omega
  have hz : ∀ u : World, (zeroValue 3).run Tryz.prog u = .ok (.int .i64 0) u := fun u => Tryz.zeroValue3 u
  have hzd : plainElem (H := Unit) Tryz.prog 3 (.int .i64 0) = some (.lit (.int .i64 0), []) := plainElem_int Tryz.underlying3 (by decide)
  obtain ⟨c, l0, a0, -⟩ := h1.lookup_int KK Tryz.underlying83 Tryz.underlying3 (hz w) (pt_key hx)
  have hc : c = (if seen.any (ptEq x) then 1 else 0) := by
    exact (lit_inj ((h3 x hx).symm.trans a0)).symm
  have hwf : (Lit.int .i64 (c + 1)).wf = true := by rw [hc]; cases seen.any (ptEq x) <;> decide
  obtain ⟨v0, st, w1, D1, e1, o1, a1, g1, hS⟩ := entry_own h1 ptLaw Tryz.underlying83 hz hzd hmax (pt_key hx)
  obtain ⟨c1, l1, b1, -⟩ := o1.lookup_int KK Tryz.underlying83 Tryz.underlying3 (hz w1) (pt_key hx)
  have hc1 : c1 = c := lit_inj ((b1.symm.trans a1).trans a0)
  subst hc1
  obtain ⟨w2, e2, o2, g2⟩ := hS (.int .i64 (c1 + 1)) _ [] (plainElem_int Tryz.underlying3 hwf)
  obtain ⟨c2, l2, b2, -⟩ := o2.lookup_int KK Tryz.underlying83 Tryz.underlying3 (hz w2) (pt_key hx)
  have hput := Go.Maps.atKey_put_same h1.isMap (KK.key (pt_key hx)) (.lit (.int .i64 (c1 + 1))) (.lit (.int .i64 0))
  have hc2 : c2 = c1 + 1 := lit_inj (b2.symm.trans hput)
  subst hc2
  refine ⟨c1, v0, st, w1, w2, hc, l0, e1, l1, g1, e2, g2, l2, fun h0 => ⟨n + 1, _, o2, by rw [List.length_append]; simp; omega, fun y hy => ?_⟩⟩
  rw [List.any_append]
  by_cases he : ptEq y x = true
  · rw [ptL_eq he, hput, h0]
    simp [he]
  · have hne : ptL y ≠ ptL x := fun e => he (ptL_inj hy hx e)
    rw [Go.Maps.atKey_put_other hne, h3 y hy]
    simp [he]
end Go.Proofs.YtaonadgelkdbcaaGreatDoor
