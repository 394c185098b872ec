/- Who opens a lock: plain; a signature looked at; the closures of lock.opens; looks through rows. -/
import Derived.Test.YtbiioifpeebjaaaGreatDoorQ10
import Derived.Test.YtbiioifpeebjaaaGreatDoorQ9
import Derived.Test.YtbiioifpeebjaaaGreatDoorQ51
import Derived.Laws.EntriesVeiled
set_option linter.all false
namespace Go.Proofs.YtbiioifpeebjaaaGreatDoor
open Go.RowKit

mutual
/-- Does a lock open by these public keys' signatures, these digests' preimages, at that block and age? -/
def opB (ps hs : List ByteArray) (after age : Int) : LockT → Bool
  | .node k t n l => if k = 1 then ps.any (fun p => p.toList == t.toList) else if k = 2 then hs.any (fun h => h.toList == t.toList) else if k = 3 then decide (n ≤ after) else if k = 4 then decide (n ≤ age) else if k = 5 then opAll ps hs after age l else opAny ps hs after age l
def opAll (ps hs : List ByteArray) (after age : Int) : List LockT → Bool
  | [] => true
  | x :: r => opB ps hs after age x && opAll ps hs after age r
def opAny (ps hs : List ByteArray) (after age : Int) : List LockT → Bool
  | [] => false
  | x :: r => opB ps hs after age x || opAny ps hs after age r
end
theorem opAll_eq (ps hs : List ByteArray) (after age : Int) : ∀ l, (!l.any fun x => !opB ps hs after age x) = opAll ps hs after age l
  | [] => rfl
  | x :: r => by
    have ih := opAll_eq ps hs after age r
    unfold opAll
    rw [← ih, List.any_cons]
    cases opB ps hs after age x <;> simp
theorem opAny_eq (ps hs : List ByteArray) (after age : Int) : ∀ l, l.any (opB ps hs after age) = opAny ps hs after age l
  | [] => rfl
  | x :: r => by
    have ih := opAny_eq ps hs after age r
    unfold opAny
    rw [← ih, List.any_cons]
theorem opB_any {ps hs : List ByteArray} {after age k n : Int} {t : ByteArray} {l : List LockT} (h1 : ¬ k = 1) (h2 : ¬ k = 2) (h3 : ¬ k = 3) (h4 : ¬ k = 4) (h5 : ¬ k = 5) : opB ps hs after age (.node k t n l) = l.any (opB ps hs after age) := by
  rw [opAny_eq]
  unfold opB
  rw [if_neg h1, if_neg h2, if_neg h3, if_neg h4, if_neg h5]
def idx {α : Type} (p : α → Bool) (l : List α) : Int := match l.findIdx? p with | some i => i | none => -1
theorem idx_hit {α : Type} {p : α → Bool} {l : List α} {k : Nat} (hk : k < l.length) (hp : p l[k] = true) (h : ∀ j (hj : j < l.length), j < k → p l[j] = false) : idx p l = k := by
  have : l.findIdx? p = some k := by
    rw [List.findIdx?_eq_some_iff_getElem]
    exact ⟨hk, hp, fun j hj => by rw [h j (by omega) hj]; simp⟩
  unfold idx
  rw [this]
theorem idx_miss {α : Type} {p : α → Bool} {l : List α} (h : ∀ j (hj : j < l.length), p l[j] = false) : idx p l = -1 := by
  have : l.findIdx? p = none := by
    rw [List.findIdx?_eq_none_iff]
    intro x hx
    obtain ⟨j, hj, rfl⟩ := List.getElem_of_mem hx
    exact h j hj
  unfold idx
  rw [this]
theorem idx_any {α : Type} (p : α → Bool) (l : List α) : (decide (idx p l ≥ 0)) = l.any p := by
  unfold idx
  cases h : l.findIdx? p with
  | none =>
    rw [List.findIdx?_eq_none_iff] at h
    have : l.any p = false := by rw [List.any_eq_false]; intro x hx; rw [h x hx]; simp
    rw [this]; rfl
  | some i =>
    rw [List.findIdx?_eq_some_iff_getElem] at h
    obtain ⟨hi, hb, -⟩ := h
    have : l.any p = true := List.any_eq_true.2 ⟨l[i], List.getElem_mem _, hb⟩
    rw [this]; simp
set_option maxRecDepth 100000 in
set_option maxHeartbeats 8000000 in
/-- A signature of a right secret under a message. -/
theorem verify_any (p m s k pb : ByteArray) (x : Cut) (w : World) (hsz : s.size ≤ 1000000) (hq : right s.data.toList = some x) (hb : byte s.data.toList 0 = 83) (hp : pieces s x.kids = [k, m]) (hv : VarsOk w) (hk : k.size ≤ 16384) (hkr : rightB k.data.toList = true) (hpb : bs (keyF k.size k.data.toList) = pb) :
    Calls Tryz.prog 59 #[.string p, .string m, .string s] w fun e w' => e = .returned (.bool (pb.toList == p.toList)) ∧ Below w.heap.size w w' := by
  have hO := open_any s w hsz hv
  unfold OpenP at hO
  rw [hq, hb] at hO
  simp only at hO
  rw [hp] at hO
  unfold partsV at hO
  have HO := Lib.hid hO
  have HV := Lib.hid hv
  have HK := Lib.hid (fun (W : World) hW => key_any k.size k W (Nat.le_refl _) hk hkr hW)
  rw [hpb] at HK
  clear hO hb hp hv hq hkr hpb
  have hm : (m.toList == m.toList) = true := by simp
  cases hq2 : (pb.toList == p.toList) with
  | true =>
    have HQ := Lib.hid hq2
    go_enter Tryz.func59, Tryz.ntmps59
    go_wp2_with fail
    refine HO.out.mono ?_
    rintro e w1 ⟨A, cap, rfl, hc1, hb1⟩
    obtain ⟨W, hW⟩ : ∃ W, w1.alloc (.cells #[.int .u8 83, .int .i64 (x.num : Int), .string (textOf s 83 x), .slice A 2 cap] 132) = W := ⟨_, rfl⟩
    have hI : KeyInv w w1.heap.size A [k, m] cap W := by
      have hb2 : Below w1.heap.size w1 W := by rw [← hW]; exact (Below.refl _ _).alloc (Nat.le_refl _) _
      refine ⟨hb1.trans (hb2.mono hb1.size), (HV.out.below hb1).below hb2, ?_, Cells.below hc1 hb2⟩
      rw [← hW]; exact alloc_cells 3 _ rfl
    have q0 : W.cell? ⟨w1.heap.size, 0, none⟩ = some (.int .u8 83) := by rw [← hW]; exact alloc_cells 0 _ rfl
    obtain ⟨ad, rfl, -⟩ := hI.first (by simp)
    obtain ⟨a0, a1, a2⟩ : W.cell? ⟨w1.heap.size, 3, none⟩ = some (.slice (some ad) 2 cap) ∧ W.cell? ad = some (.string k) ∧ W.cell? ⟨ad.block, ad.off + 1, none⟩ = some (.string m) := hI.cells (by simp)
    have HI := Lib.hid hI
    clear hc1 hb1 hI
    have HW := Lib.hid hW
    clear hW
    go_upto_region 2 with fail
    rw [HW.out]
    go_wp2_with fail
    refine (HK.out _ HI.out.vars).mono ?_
    rintro e w2 ⟨rfl, hb2⟩
    have HB2 := Lib.hid (HI.out.next hb2).below
    clear hb2
    go_wp2_with fail
    go_ret
    exact ⟨rfl, HB2.out⟩
  | false =>
    have HQ := Lib.hid hq2
    go_enter Tryz.func59, Tryz.ntmps59
    go_wp2_with fail
    refine HO.out.mono ?_
    rintro e w1 ⟨A, cap, rfl, hc1, hb1⟩
    obtain ⟨W, hW⟩ : ∃ W, w1.alloc (.cells #[.int .u8 83, .int .i64 (x.num : Int), .string (textOf s 83 x), .slice A 2 cap] 132) = W := ⟨_, rfl⟩
    have hI : KeyInv w w1.heap.size A [k, m] cap W := by
      have hb2 : Below w1.heap.size w1 W := by rw [← hW]; exact (Below.refl _ _).alloc (Nat.le_refl _) _
      refine ⟨hb1.trans (hb2.mono hb1.size), (HV.out.below hb1).below hb2, ?_, Cells.below hc1 hb2⟩
      rw [← hW]; exact alloc_cells 3 _ rfl
    have q0 : W.cell? ⟨w1.heap.size, 0, none⟩ = some (.int .u8 83) := by rw [← hW]; exact alloc_cells 0 _ rfl
    obtain ⟨ad, rfl, -⟩ := hI.first (by simp)
    obtain ⟨a0, a1, a2⟩ : W.cell? ⟨w1.heap.size, 3, none⟩ = some (.slice (some ad) 2 cap) ∧ W.cell? ad = some (.string k) ∧ W.cell? ⟨ad.block, ad.off + 1, none⟩ = some (.string m) := hI.cells (by simp)
    have HI := Lib.hid hI
    clear hc1 hb1 hI
    have HW := Lib.hid hW
    clear hW
    go_upto_region 2 with fail
    rw [HW.out]
    go_wp2_with fail
    refine (HK.out _ HI.out.vars).mono ?_
    rintro e w2 ⟨rfl, hb2⟩
    have HB2 := Lib.hid (HI.out.next hb2).below
    clear hb2
    go_wp2_with fail
    go_ret
    exact ⟨rfl, HB2.out⟩
def VerOk (sg pb m : ByteArray) : Prop := ∀ (p : ByteArray) (W : World), VarsOk W → Calls Tryz.prog 59 #[.string p, .string m, .string sg] W fun e w' => e = .returned (.bool (pb.toList == p.toList)) ∧ Below W.heap.size W w'
def HashOk (x h : ByteArray) : Prop := ∀ W : World, VarsOk W → Calls Tryz.prog 61 #[.string x] W fun e w' => e = .returned (.tuple #[.string h, .int .i64 0]) ∧ Below W.heap.size W w'
set_option maxHeartbeats 4000000 in
theorem cl2_any (s t m pb : ByteArray) (lb mb : Nat) (w : World) (hv : VarsOk w) (h : VerOk s pb m) (h1 : w.cell? ⟨lb, 1, none⟩ = some (.string t)) (h2 : w.cell? ⟨mb, 0, none⟩ = some (.string m)) :
    Calls Tryz.prog 58 #[.string s, .pointer (some ⟨lb, 0, none⟩), .pointer (some ⟨mb, 0, none⟩)] w fun e w' => e = .returned (.bool (pb.toList == t.toList)) ∧ Below w.heap.size w w' := by
  have HV := Lib.hid (h t w hv)
  clear h hv
  go_enter Tryz.func58, Tryz.ntmps58
  go_wp2_with fail
  refine HV.out.mono ?_
  rintro e w1 ⟨rfl, hb1⟩
  have HB1 := Lib.hid hb1; clear hb1
  go_wp2_with fail
  go_ret
  exact ⟨rfl, HB1.out⟩
set_option maxHeartbeats 4000000 in
theorem cl3_any (x t h : ByteArray) (lb : Nat) (w : World) (hv : VarsOk w) (hh : HashOk x h) (h1 : w.cell? ⟨lb, 1, none⟩ = some (.string t)) :
    Calls Tryz.prog 60 #[.string x, .pointer (some ⟨lb, 0, none⟩)] w fun e w' => e = .returned (.bool (h.toList == t.toList)) ∧ Below w.heap.size w w' := by
  have HV := Lib.hid (hh w hv)
  have H1 := Lib.hid h1
  clear hh hv h1
  cases hq : (h.toList == t.toList) with
  | true =>
    go_enter Tryz.func60, Tryz.ntmps60
    go_wp2_with fail
    refine HV.out.mono ?_
    rintro e w1 ⟨rfl, hb1⟩
    have h1 := cell_below hb1 H1.out
    have HB1 := Lib.hid hb1; clear hb1
    go_wp2_with fail
    go_ret
    exact ⟨rfl, HB1.out⟩
  | false =>
    go_enter Tryz.func60, Tryz.ntmps60
    go_wp2_with fail
    refine HV.out.mono ?_
    rintro e w1 ⟨rfl, hb1⟩
    have h1 := cell_below hb1 H1.out
    have HB1 := Lib.hid hb1; clear hb1
    go_wp2_with fail
    go_ret
    exact ⟨rfl, HB1.out⟩
set_option maxHeartbeats 4000000 in
theorem cl1_any (k n : Int) (t : ByteArray) (B : Option Addr) (len cap : Nat) (SA PA : Option Addr) (sn sc pn pc : Nat) (m : ByteArray) (after age : Int) (wb mb ab gb : Nat) (b : Bool) (w : World)
    (h : ∀ W, Below w.heap.size w W → Calls Tryz.prog 36 #[.agg #[.int .u8 k, .string t, .int .i64 n, .slice B len cap], .agg #[.slice SA sn sc, .slice PA pn pc], .string m, .int .i64 after, .int .i64 age] W fun e w' => e = .returned (.bool b) ∧ Below W.heap.size W w')
    (h1 : w.cell? ⟨wb, 0, none⟩ = some (.slice SA sn sc)) (h2 : w.cell? ⟨wb, 1, none⟩ = some (.slice PA pn pc)) (h3 : w.cell? ⟨mb, 0, none⟩ = some (.string m)) (h4 : w.cell? ⟨ab, 0, none⟩ = some (.int .i64 after)) (h5 : w.cell? ⟨gb, 0, none⟩ = some (.int .i64 age)) :
    Calls Tryz.prog 56 #[.agg #[.int .u8 k, .string t, .int .i64 n, .slice B len cap], .pointer (some ⟨wb, 0, none⟩), .pointer (some ⟨mb, 0, none⟩), .pointer (some ⟨ab, 0, none⟩), .pointer (some ⟨gb, 0, none⟩)] w fun e w' => e = .returned (.bool b) ∧ Below w.heap.size w w' := by
  have hb0 : Below w.heap.size w (w.alloc (.cells #[.int .u8 k, .string t, .int .i64 n, .slice B len cap] 35)) := (Below.refl _ _).alloc (Nat.le_refl _) _
  have HB := Lib.hid hb0
  have H := Lib.hid (h _ hb0)
  have g1 := cell_below hb0 h1
  have g2 := cell_below hb0 h2
  have g3 := cell_below hb0 h3
  have g4 := cell_below hb0 h4
  have g5 := cell_below hb0 h5
  clear hb0 h
  go_enter Tryz.func56, Tryz.ntmps56
  go_wp2_with fail
  refine H.out.mono ?_
  rintro e w1 ⟨rfl, hb1⟩
  have HB1 := Lib.hid (HB.out.trans (hb1.mono HB.out.size)); clear hb1
  go_wp2_with fail
  go_ret
  exact ⟨rfl, HB1.out⟩
set_option maxHeartbeats 4000000 in
theorem cl4_any (k n : Int) (t : ByteArray) (B : Option Addr) (len cap : Nat) (fb wb mb ab gb : Nat) (b : Bool) (w : World)
    (h : ∀ W, Below w.heap.size w W → Calls Tryz.prog 56 (#[.agg #[.int .u8 k, .string t, .int .i64 n, .slice B len cap]] ++ #[.pointer (some ⟨wb, 0, none⟩), .pointer (some ⟨mb, 0, none⟩), .pointer (some ⟨ab, 0, none⟩), .pointer (some ⟨gb, 0, none⟩)]) W fun e w' => e = .returned (.bool b) ∧ Below W.heap.size W w')
    (h1 : w.cell? ⟨fb, 0, none⟩ = some (.func (.func 56) #[] #[.pointer (some ⟨wb, 0, none⟩), .pointer (some ⟨mb, 0, none⟩), .pointer (some ⟨ab, 0, none⟩), .pointer (some ⟨gb, 0, none⟩)])) :
    Calls Tryz.prog 63 #[.agg #[.int .u8 k, .string t, .int .i64 n, .slice B len cap], .pointer (some ⟨fb, 0, none⟩)] w fun e w' => e = .returned (.bool (!b)) ∧ Below w.heap.size w w' := by
  have hb0 : Below w.heap.size w (w.alloc (.cells #[.int .u8 k, .string t, .int .i64 n, .slice B len cap] 35)) := (Below.refl _ _).alloc (Nat.le_refl _) _
  have HB := Lib.hid hb0
  have H := Lib.hid (h _ hb0)
  have g1 := cell_below hb0 h1
  clear hb0 h
  go_enter Tryz.func63, Tryz.ntmps63
  go_wp2_with fail
  refine H.out.mono ?_
  rintro e w1 ⟨rfl, hb1⟩
  have HB1 := Lib.hid (HB.out.trans (hb1.mono HB.out.size)); clear hb1
  go_wp2_with fail
  go_ret
  exact ⟨rfl, HB1.out⟩
set_option maxRecDepth 100000 in
set_option maxHeartbeats 4000000 in
theorem idx_c2 (p : ByteArray → Bool) (l : List ByteArray) (A : Option Addr) (c : Nat) (lb mb : Nat) (w : World) (hl : l.length ≤ 1000) (hA : Cells w A (strs l))
    (hc : ∀ (k : Nat) (hk : k < l.length) (W : World), Below w.heap.size w W → Calls Tryz.prog 58 (#[.string l[k]] ++ #[.pointer (some ⟨lb, 0, none⟩), .pointer (some ⟨mb, 0, none⟩)]) W fun e w' => e = .returned (.bool (p l[k])) ∧ Below W.heap.size W w') :
    Calls Tryz.prog 77 #[.slice A l.length c, .func (.func 58) #[] #[.pointer (some ⟨lb, 0, none⟩), .pointer (some ⟨mb, 0, none⟩)]] w fun e w' => e = .returned (.int .i64 (idx p l)) ∧ Below w.heap.size w w' := by
  have HA := Lib.hid hA
  have HC := Lib.hid hc
  clear hA hc
  go_enter Tryz.func77, Tryz.ntmps77
  go_wp2_with fail
  go_loopw [8] (fun i wr => ∃ k : Nat, k ≤ l.length ∧ i = .int .i64 k ∧ (∀ j (hj : j < l.length), j < k → p l[j] = false) ∧ Below w.heap.size w wr) (fun i _ => l.length - (intOf i).toNat)
  case atStart => exact ⟨0, Nat.zero_le _, rfl, fun j _ h => by omega, Below.refl _ _⟩
  case round =>
    obtain ⟨k, hk, rfl, hall, hbr⟩ := hrel
    have HALL := Lib.hid hall; clear hall
    have HBR := Lib.hid hbr; clear hbr
    by_cases hlt : k < l.length
    · obtain ⟨ad, rfl, hc0⟩ := strs_at (Cells.below HA.out HBR.out) hlt
      have hcall := HC.out k hlt wr HBR.out
      obtain ⟨b, hb⟩ : ∃ b, p l[k] = b := ⟨_, rfl⟩
      rw [hb] at hcall
      have HBV := Lib.hid hb
      have HCALL := Lib.hid hcall
      clear hcall hb
      go_wp2_with fail
      refine HCALL.out.mono ?_
      rintro e w1 ⟨rfl, hb1⟩
      have HB1 := Lib.hid (HBR.out.trans (hb1.mono HBR.out.size))
      clear hb1 hc0
      cases b with
      | false =>
        go_wp2_with fail
        go_roundw
        case rel =>
          refine ⟨k + 1, by omega, by go_num, fun j hj hjk => ?_, HB1.out⟩
          rcases Nat.lt_or_ge j k with h | h
          · exact HALL.out j hj h
          · obtain rfl : j = k := by omega
            exact HBV.out
        case measure => simp [intOf]; omega
      | true =>
        have hf := idx_hit hlt HBV.out HALL.out
        have HF := Lib.hid hf; clear hf
        go_wp2_with fail
        go_ret
        exact ⟨ret_int HF.out.symm, HB1.out⟩
    · have hf := idx_miss (p := p) (l := l) fun j hj => HALL.out j hj (by omega)
      have HF := Lib.hid hf; clear hf
      go_wp2_with fail
      go_ret
      exact ⟨ret_int HF.out.symm, HBR.out⟩
set_option maxRecDepth 100000 in
set_option maxHeartbeats 4000000 in
theorem has_c2 (p : ByteArray → Bool) (l : List ByteArray) (A : Option Addr) (c : Nat) (lb mb : Nat) (w : World) (hl : l.length ≤ 1000) (hA : Cells w A (strs l))
    (hc : ∀ (k : Nat) (hk : k < l.length) (W : World), Below w.heap.size w W → Calls Tryz.prog 58 (#[.string l[k]] ++ #[.pointer (some ⟨lb, 0, none⟩), .pointer (some ⟨mb, 0, none⟩)]) W fun e w' => e = .returned (.bool (p l[k])) ∧ Below W.heap.size W w') :
    Calls Tryz.prog 57 #[.slice A l.length c, .func (.func 58) #[] #[.pointer (some ⟨lb, 0, none⟩), .pointer (some ⟨mb, 0, none⟩)]] w fun e w' => e = .returned (.bool (l.any p)) ∧ Below w.heap.size w w' := by
  have HF := Lib.hid (idx_any p l)
  have HI := Lib.hid (idx_c2 p l A c lb mb w hl hA hc)
  clear hA hc
  go_enter Tryz.func57, Tryz.ntmps57
  go_wp2_with fail
  refine HI.out.mono ?_
  rintro e w1 ⟨rfl, hb1⟩
  have HB1 := Lib.hid hb1; clear hb1
  go_wp2_with fail
  go_ret
  exact ⟨ret_bool HF.out, HB1.out⟩
set_option maxRecDepth 100000 in
set_option maxHeartbeats 4000000 in
theorem idx_c3 (p : ByteArray → Bool) (l : List ByteArray) (A : Option Addr) (c : Nat) (lb : Nat) (w : World) (hl : l.length ≤ 1000) (hA : Cells w A (strs l))
    (hc : ∀ (k : Nat) (hk : k < l.length) (W : World), Below w.heap.size w W → Calls Tryz.prog 60 (#[.string l[k]] ++ #[.pointer (some ⟨lb, 0, none⟩)]) W fun e w' => e = .returned (.bool (p l[k])) ∧ Below W.heap.size W w') :
    Calls Tryz.prog 77 #[.slice A l.length c, .func (.func 60) #[] #[.pointer (some ⟨lb, 0, none⟩)]] w fun e w' => e = .returned (.int .i64 (idx p l)) ∧ Below w.heap.size w w' := by
  have HA := Lib.hid hA
  have HC := Lib.hid hc
  clear hA hc
  go_enter Tryz.func77, Tryz.ntmps77
  go_wp2_with fail
  go_loopw [8] (fun i wr => ∃ k : Nat, k ≤ l.length ∧ i = .int .i64 k ∧ (∀ j (hj : j < l.length), j < k → p l[j] = false) ∧ Below w.heap.size w wr) (fun i _ => l.length - (intOf i).toNat)
  case atStart => exact ⟨0, Nat.zero_le _, rfl, fun j _ h => by omega, Below.refl _ _⟩
  case round =>
    obtain ⟨k, hk, rfl, hall, hbr⟩ := hrel
    have HALL := Lib.hid hall; clear hall
    have HBR := Lib.hid hbr; clear hbr
    by_cases hlt : k < l.length
    · obtain ⟨ad, rfl, hc0⟩ := strs_at (Cells.below HA.out HBR.out) hlt
      have hcall := HC.out k hlt wr HBR.out
      obtain ⟨b, hb⟩ : ∃ b, p l[k] = b := ⟨_, rfl⟩
      rw [hb] at hcall
      have HBV := Lib.hid hb
      have HCALL := Lib.hid hcall
      clear hcall hb
      go_wp2_with fail
      refine HCALL.out.mono ?_
      rintro e w1 ⟨rfl, hb1⟩
      have HB1 := Lib.hid (HBR.out.trans (hb1.mono HBR.out.size))
      clear hb1 hc0
      cases b with
      | false =>
        go_wp2_with fail
        go_roundw
        case rel =>
          refine ⟨k + 1, by omega, by go_num, fun j hj hjk => ?_, HB1.out⟩
          rcases Nat.lt_or_ge j k with h | h
          · exact HALL.out j hj h
          · obtain rfl : j = k := by omega
            exact HBV.out
        case measure => simp [intOf]; omega
      | true =>
        have hf := idx_hit hlt HBV.out HALL.out
        have HF := Lib.hid hf; clear hf
        go_wp2_with fail
        go_ret
        exact ⟨ret_int HF.out.symm, HB1.out⟩
    · have hf := idx_miss (p := p) (l := l) fun j hj => HALL.out j hj (by omega)
      have HF := Lib.hid hf; clear hf
      go_wp2_with fail
      go_ret
      exact ⟨ret_int HF.out.symm, HBR.out⟩
set_option maxRecDepth 100000 in
set_option maxHeartbeats 4000000 in
theorem has_c3 (p : ByteArray → Bool) (l : List ByteArray) (A : Option Addr) (c : Nat) (lb : Nat) (w : World) (hl : l.length ≤ 1000) (hA : Cells w A (strs l))
    (hc : ∀ (k : Nat) (hk : k < l.length) (W : World), Below w.heap.size w W → Calls Tryz.prog 60 (#[.string l[k]] ++ #[.pointer (some ⟨lb, 0, none⟩)]) W fun e w' => e = .returned (.bool (p l[k])) ∧ Below W.heap.size W w') :
    Calls Tryz.prog 57 #[.slice A l.length c, .func (.func 60) #[] #[.pointer (some ⟨lb, 0, none⟩)]] w fun e w' => e = .returned (.bool (l.any p)) ∧ Below w.heap.size w w' := by
  have HF := Lib.hid (idx_any p l)
  have HI := Lib.hid (idx_c3 p l A c lb w hl hA hc)
  clear hA hc
  go_enter Tryz.func57, Tryz.ntmps57
  go_wp2_with fail
  refine HI.out.mono ?_
  rintro e w1 ⟨rfl, hb1⟩
  have HB1 := Lib.hid hb1; clear hb1
  go_wp2_with fail
  go_ret
  exact ⟨ret_bool HF.out, HB1.out⟩
set_option maxRecDepth 100000 in
set_option maxHeartbeats 4000000 in
theorem idx_c1 (p : LockT → Bool) (l : List LockT) (xs : List Value) (A : Option Addr) (c : Nat) (wb mb ab gb : Nat) (w : World) (hl : l.length ≤ 1000000) (hA : Cells w A xs) (hL : LocksC w l xs)
    (hc : ∀ (k : Nat) (hk : k < l.length) (cs : List Value) (W : World), Below w.heap.size w W → LockC W l[k] cs → Calls Tryz.prog 56 (#[.agg cs.toArray] ++ #[.pointer (some ⟨wb, 0, none⟩), .pointer (some ⟨mb, 0, none⟩), .pointer (some ⟨ab, 0, none⟩), .pointer (some ⟨gb, 0, none⟩)]) W fun e w' => e = .returned (.bool (p l[k])) ∧ Below W.heap.size W w') :
    Calls Tryz.prog 80 #[.slice A l.length c, .func (.func 56) #[] #[.pointer (some ⟨wb, 0, none⟩), .pointer (some ⟨mb, 0, none⟩), .pointer (some ⟨ab, 0, none⟩), .pointer (some ⟨gb, 0, none⟩)]] w fun e w' => e = .returned (.int .i64 (idx p l)) ∧ Below w.heap.size w w' := by
  have HA := Lib.hid hA
  have HL := Lib.hid hL
  have HC := Lib.hid hc
  clear hA hL hc
  go_enter Tryz.func80, Tryz.ntmps80
  go_wp2_with fail
  go_loopw [8] (fun i wr => ∃ k : Nat, k ≤ l.length ∧ i = .int .i64 k ∧ (∀ j (hj : j < l.length), j < k → p l[j] = false) ∧ Below w.heap.size w wr) (fun i _ => l.length - (intOf i).toNat)
  case atStart => exact ⟨0, Nat.zero_le _, rfl, fun j _ h => by omega, Below.refl _ _⟩
  case round =>
    obtain ⟨k, hk, rfl, hall, hbr⟩ := hrel
    have HALL := Lib.hid hall; clear hall
    have HBR := Lib.hid hbr; clear hbr
    by_cases hlt : k < l.length
    · obtain ⟨ad, B, cap, rfl, hc0, hc1, hc2, hc3, hlk⟩ := lock_at (Cells.below HA.out HBR.out) (LocksC.below HBR.out l xs HL.out) hlt
      have hcall := HC.out k hlt _ wr HBR.out hlk
      obtain ⟨b, hb⟩ : ∃ b, p l[k] = b := ⟨_, rfl⟩
      rw [hb] at hcall
      have HBV := Lib.hid hb
      have HCALL := Lib.hid hcall
      clear hcall hb hlk
      go_wp2_with fail
      refine HCALL.out.mono ?_
      rintro e w1 ⟨rfl, hb1⟩
      have HB1 := Lib.hid (HBR.out.trans (hb1.mono HBR.out.size))
      clear hb1 hc0 hc1 hc2 hc3
      cases b with
      | false =>
        go_wp2_with fail
        go_roundw
        case rel =>
          refine ⟨k + 1, by omega, by go_num, fun j hj hjk => ?_, HB1.out⟩
          rcases Nat.lt_or_ge j k with h | h
          · exact HALL.out j hj h
          · obtain rfl : j = k := by omega
            exact HBV.out
        case measure => simp [intOf]; omega
      | true =>
        have hf := idx_hit hlt HBV.out HALL.out
        have HF := Lib.hid hf; clear hf
        go_wp2_with fail
        go_ret
        exact ⟨ret_int HF.out.symm, HB1.out⟩
    · have hf := idx_miss (p := p) (l := l) fun j hj => HALL.out j hj (by omega)
      have HF := Lib.hid hf; clear hf
      go_wp2_with fail
      go_ret
      exact ⟨ret_int HF.out.symm, HBR.out⟩
set_option maxRecDepth 100000 in
set_option maxHeartbeats 4000000 in
theorem has_c1 (p : LockT → Bool) (l : List LockT) (xs : List Value) (A : Option Addr) (c : Nat) (wb mb ab gb : Nat) (w : World) (hl : l.length ≤ 1000000) (hA : Cells w A xs) (hL : LocksC w l xs)
    (hc : ∀ (k : Nat) (hk : k < l.length) (cs : List Value) (W : World), Below w.heap.size w W → LockC W l[k] cs → Calls Tryz.prog 56 (#[.agg cs.toArray] ++ #[.pointer (some ⟨wb, 0, none⟩), .pointer (some ⟨mb, 0, none⟩), .pointer (some ⟨ab, 0, none⟩), .pointer (some ⟨gb, 0, none⟩)]) W fun e w' => e = .returned (.bool (p l[k])) ∧ Below W.heap.size W w') :
    Calls Tryz.prog 62 #[.slice A l.length c, .func (.func 56) #[] #[.pointer (some ⟨wb, 0, none⟩), .pointer (some ⟨mb, 0, none⟩), .pointer (some ⟨ab, 0, none⟩), .pointer (some ⟨gb, 0, none⟩)]] w fun e w' => e = .returned (.bool (l.any p)) ∧ Below w.heap.size w w' := by
  have HF := Lib.hid (idx_any p l)
  have HI := Lib.hid (idx_c1 p l xs A c wb mb ab gb w hl hA hL hc)
  clear hA hL hc
  go_enter Tryz.func62, Tryz.ntmps62
  go_wp2_with fail
  refine HI.out.mono ?_
  rintro e w1 ⟨rfl, hb1⟩
  have HB1 := Lib.hid hb1; clear hb1
  go_wp2_with fail
  go_ret
  exact ⟨ret_bool HF.out, HB1.out⟩
set_option maxRecDepth 100000 in
set_option maxHeartbeats 4000000 in
theorem idx_c4 (p : LockT → Bool) (l : List LockT) (xs : List Value) (A : Option Addr) (c : Nat) (fb : Nat) (w : World) (hl : l.length ≤ 1000000) (hA : Cells w A xs) (hL : LocksC w l xs)
    (hc : ∀ (k : Nat) (hk : k < l.length) (cs : List Value) (W : World), Below w.heap.size w W → LockC W l[k] cs → Calls Tryz.prog 63 (#[.agg cs.toArray] ++ #[.pointer (some ⟨fb, 0, none⟩)]) W fun e w' => e = .returned (.bool (p l[k])) ∧ Below W.heap.size W w') :
    Calls Tryz.prog 80 #[.slice A l.length c, .func (.func 63) #[] #[.pointer (some ⟨fb, 0, none⟩)]] w fun e w' => e = .returned (.int .i64 (idx p l)) ∧ Below w.heap.size w w' := by
  have HA := Lib.hid hA
  have HL := Lib.hid hL
  have HC := Lib.hid hc
  clear hA hL hc
  go_enter Tryz.func80, Tryz.ntmps80
  go_wp2_with fail
  go_loopw [8] (fun i wr => ∃ k : Nat, k ≤ l.length ∧ i = .int .i64 k ∧ (∀ j (hj : j < l.length), j < k → p l[j] = false) ∧ Below w.heap.size w wr) (fun i _ => l.length - (intOf i).toNat)
  case atStart => exact ⟨0, Nat.zero_le _, rfl, fun j _ h => by omega, Below.refl _ _⟩
  case round =>
    obtain ⟨k, hk, rfl, hall, hbr⟩ := hrel
    have HALL := Lib.hid hall; clear hall
    have HBR := Lib.hid hbr; clear hbr
    by_cases hlt : k < l.length
    · obtain ⟨ad, B, cap, rfl, hc0, hc1, hc2, hc3, hlk⟩ := lock_at (Cells.below HA.out HBR.out) (LocksC.below HBR.out l xs HL.out) hlt
      have hcall := HC.out k hlt _ wr HBR.out hlk
      obtain ⟨b, hb⟩ : ∃ b, p l[k] = b := ⟨_, rfl⟩
      rw [hb] at hcall
      have HBV := Lib.hid hb
      have HCALL := Lib.hid hcall
      clear hcall hb hlk
      go_wp2_with fail
      refine HCALL.out.mono ?_
      rintro e w1 ⟨rfl, hb1⟩
      have HB1 := Lib.hid (HBR.out.trans (hb1.mono HBR.out.size))
      clear hb1 hc0 hc1 hc2 hc3
      cases b with
      | false =>
        go_wp2_with fail
        go_roundw
        case rel =>
          refine ⟨k + 1, by omega, by go_num, fun j hj hjk => ?_, HB1.out⟩
          rcases Nat.lt_or_ge j k with h | h
          · exact HALL.out j hj h
          · obtain rfl : j = k := by omega
            exact HBV.out
        case measure => simp [intOf]; omega
      | true =>
        have hf := idx_hit hlt HBV.out HALL.out
        have HF := Lib.hid hf; clear hf
        go_wp2_with fail
        go_ret
        exact ⟨ret_int HF.out.symm, HB1.out⟩
    · have hf := idx_miss (p := p) (l := l) fun j hj => HALL.out j hj (by omega)
      have HF := Lib.hid hf; clear hf
      go_wp2_with fail
      go_ret
      exact ⟨ret_int HF.out.symm, HBR.out⟩
set_option maxRecDepth 100000 in
set_option maxHeartbeats 4000000 in
theorem has_c4 (p : LockT → Bool) (l : List LockT) (xs : List Value) (A : Option Addr) (c : Nat) (fb : Nat) (w : World) (hl : l.length ≤ 1000000) (hA : Cells w A xs) (hL : LocksC w l xs)
    (hc : ∀ (k : Nat) (hk : k < l.length) (cs : List Value) (W : World), Below w.heap.size w W → LockC W l[k] cs → Calls Tryz.prog 63 (#[.agg cs.toArray] ++ #[.pointer (some ⟨fb, 0, none⟩)]) W fun e w' => e = .returned (.bool (p l[k])) ∧ Below W.heap.size W w') :
    Calls Tryz.prog 62 #[.slice A l.length c, .func (.func 63) #[] #[.pointer (some ⟨fb, 0, none⟩)]] w fun e w' => e = .returned (.bool (l.any p)) ∧ Below w.heap.size w w' := by
  have HF := Lib.hid (idx_any p l)
  have HI := Lib.hid (idx_c4 p l xs A c fb w hl hA hL hc)
  clear hA hL hc
  go_enter Tryz.func62, Tryz.ntmps62
  go_wp2_with fail
  refine HI.out.mono ?_
  rintro e w1 ⟨rfl, hb1⟩
  have HB1 := Lib.hid hb1; clear hb1
  go_wp2_with fail
  go_ret
  exact ⟨ret_bool HF.out, HB1.out⟩
end Go.Proofs.YtbiioifpeebjaaaGreatDoor
